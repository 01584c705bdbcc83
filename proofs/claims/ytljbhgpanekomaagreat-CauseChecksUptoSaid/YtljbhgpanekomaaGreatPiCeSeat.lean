import Derived.Test.YtljbhgpanekomaaGreatChecked
import Derived.Test.YtljbhgpanekomaaGreatPiLaw
import Derived.Test.YtljbhgpanekomaaGreatPiLaw
import Derived.Test.YtljbhgpanekomaaGreatPiCeCode
import Derived.KernelRfl
set_option maxRecDepth 100000
set_option linter.unusedSectionVars false
namespace Go.Proofs.YtljbhgpanekomaaGreat.Pi
open Go PI PI.Sc
def tab:List Nat:=[1000000,1000000,1000000,1000000,1000000,1000000,1000000,1000000,17,38,1000000,46,76,1000000,1000000,1000000,1000000,1000000,1000000,1000000,1000000,73,1000000,30,1000000,1000000,1000000,31,32,33,72,74,1000000,77,78,1000000,1000000,1000000,1000000,86,1000000,200,1000000,1000000,1000000,1000000,1000000,1000000,59,60,61,62,1000000,1000000,1000000,1000000,1000000,63,64,65,66,67,68,69,105,106,107,108,109,110,111,112,113,114,116,1000000,1000000,1000000,1000000,1000000,1000000,136,1000000,1000000,1000000,213,1000000,1000000,1000000,90,91,92,93,94,95,1000000,1000000,96,97,98,99,100,101,102,145,146,147,148,149,150,118,1000000,1000000,1000000,176,70,1000000,1000000,131,132,133,134,135,137,138,139,140,141,142,143,144,179,180,181,182,183,184,185,186,152,1000000,177,167,168,169,170,171,172,173,174,175,178,194,195,196,197,198,199,201,202,203,204,191,192,193,214,215,216,217,206,207,208,209,210,211,212,220,221,222,218,219,223,224,225,227,228,230,1000000,1000000,1000000,1000000,1000000,1000000,1000000,1000000,1000000,1000000,8,10,11,13,18,15,1000000,20,21,16,26,27,28,29,34,35,36,37,45,47,48,49,50,53,54,55,56,57,58,248,249,250,251,71,79,51,52,83,84,85,87,88,89,103,104,117,82,129,3,4,9,12,14,22,23,24,25,39,40,41,42,43,44,75,115,151]
def Tk:List Nat:=[0,0,0,0,0,0,0,0,17,38,0,46,76,0,0,0,0,0,0,0,0,73,0,30,0,0,0,31,32,33,72,74,0,77,78,0,0,0,0,86,0,200,0,0,0,0,0,0,59,60,61,62,0,0,0,0,0,63,64,65,66,67,68,69,105,106,107,108,109,110,111,112,113,114,116,0,0,0,0,0,0,136,0,0,0,213,0,0,0,90,91,92,93,94,95,0,0,96,97,98,99,100,101,102,145,146,147,148,149,150,118,0,0,0,176,70,0,0,131,132,133,134,135,137,138,139,140,141,142,143,144,179,180,181,182,183,184,185,186,152,0,177,167,168,169,170,171,172,173,174,175,178,194,195,196,197,198,199,201,202,203,204,191,192,193,214,215,216,217,206,207,208,209,210,211,212,220,221,222,218,219,223,224,225,227,228,230,0,0,95,98,135,172,173,0,0,0,8,10,11,13,18,15,0,20,21,16,26,27,28,29,34,35,36,37,45,47,48,49,50,53,54,55,56,57,58,248,249,250,251,71,79,51,52,83,84,85,87,88,89,103,104,117,82,129,3,4,9,12,14,22,23,24,25,39,40,41,42,43,44,75,115,151]
noncomputable def yl:Nat->Option YL|189=>yOf Tryz.f95 95 0 [2,4]|190=>yOf Tryz.f98 98 0 [5,6,7,9]|191=>yOf Tryz.f135 135 0 [2]|192=>yOf Tryz.f172 172 0 [2]|193=>yOf Tryz.f173 173 0 [3]|_=>none
noncomputable def E:Env:={P:=Tryz.prog,inv:=λf=>if f<1000000 then C8 f tab 0 else none,tinv:=λ_=>none,bT:=none,pt:=[70,113,3,107]}
structure Ps where
 tabs:List (Nat×Nat×Value)
 rows:List (Nat×TypeId×Nat)
 errT:Nat
noncomputable def N0(p:Ps):Nm:={fn:=λk=>Tk.getD k 0,ty:=λt=>if t=0 then p.errT else([70,113,3,107]:List Nat).getD (t-1) 0,tabs:=p.tabs,rows:=p.rows,bT:=0,bE:=5,yl:=yl}
theorem d9M:(List.range 263).all (λk=>decide (1000000<=tab.getD k 0)||tab.getD k 0==Tk.getD k 0)=true:=by kernel_rfl
theorem d9N:(List.range 263).all (λk=>decide (1000000<=tab.getD k 0)||!([189,190,191,192,193]:List Nat).contains k)=true:=by kernel_rfl
theorem Yv{f k:Nat}(h:E.inv f=some k):f<1000000/\tab[k]?=some f:=by have h:(if f<1000000 then C8 f tab 0 else none)=some k:=h;split at h;{obtain⟨_,h2⟩:=Ix h;exact⟨by assumption,by simpa using h2⟩};simp at h
theorem P9(p:Ps):EnvOk E (N0 p):=⟨λf k h=>by obtain⟨d,h2⟩:=Yv h;have b:k<263:=(aj.1 h2).1;have a:=bz.1 d9M k (by simpa using b);(have c:tab.getD k 0=f:=by rw[eN,h2];rfl);rw[c]at a;show Tk.getD k 0=f;simp only[ee,am,dx]at a;rcases a with a|a;{omega};exact a.symm,λf k h=>by obtain⟨d,h2⟩:=Yv h;have b:k<263:=(aj.1 h2).1;have a:=bz.1 d9N k (by simpa using b);(have c:tab.getD k 0=f:=by rw[eN,h2];rfl);rw[c]at a;simp only[ee,am,dg,List.contains_eq_mem,cq]at a;rcases a with a|a;{omega};show yl k=none;unfold yl;split<;>first|rfl|(exfalso;apply a;decide),λT i h=>by obtain⟨_,h2⟩:=Ix (show C8 T [70,113,3,107] 0=some i from h);show(if i+1=0 then p.errT else([70,113,3,107]:List Nat).getD (i+1-1) 0)=T;rw[ah (by omega),eN,show([70,113,3,107]:List Nat)[i+1-1]?=some T by simpa using h2];rfl,λt h=>by simp[E]at h⟩
theorem mixed:Tryz.prog.follows .mixedOrders=true:=by kernel_rfl
section
variable{p:Ps}
theorem o8:FnS E (N0 p) 8 Nf:=fnS [0,1,2,3,4,5,6,7,8,10,11,26,28,29,30,42,43,44,57,58] {hs:=[2,3,6,26],hf:=[32,33],bf:=[32,33]} Tryz.func17
theorem o9:FnS E (N0 p) 9 Nk:=fnS [0,1,2,3,4,5,6,7,8,9,10,11,12] {} Tryz.func38
theorem o11:FnS E (N0 p) 11 Nl:=fnS [0,1,2,3,4,5,14,15,16] {hf:=[77],rs:=[42]} Tryz.func46
theorem o12:FnS E (N0 p) 12 Qc:=fnS [0,1,2] {} Tryz.func76
theorem o21:FnS E (N0 p) 21 Qd:=fnS [0,1,4,5] {} Tryz.func73
theorem o23:FnS E (N0 p) 23 Qe:=fnS [0,1,2,3,4,6,7,8,14,28,29,30,39,40,41] {hs:=[2,3,4,14],hf:=[60,61,62],bf:=[60,61,62]} Tryz.func30
theorem o28:FnS E (N0 p) 28 Nn:=fnS [0,1,2,4,7] {hs:=[0],hf:=[63],bf:=[63]} Tryz.func32
theorem o29:FnS E (N0 p) 29 J3:=fnS [0,1,4,5,7,8,9,11,13,49,50,51,63,64,65,86,87,88,121,122,123] {hs:=[0,4,5],hf:=[32,63,64,65,66,67,68,69],bf:=[32,63,65,66,67,68,69]} Tryz.func33
theorem o30:FnS E (N0 p) 30 Lm:=fnS [0,1,2,3,4,5,6,7,8,9,10] {} Tryz.func72
theorem o31:FnS E (N0 p) 31 Qf:=fnS [0,1,2,3,6,7,8,9,10,11,12,13,14,15,16,17,18,19,20,21] {hs:=[12],ox:=[(110,none)],lv:=true} Tryz.func74
theorem o33:FnS E (N0 p) 33 Vj:=fnS [0,2,3,5,6,8,9,10,11,25,26,27] {hf:=[116],rs:=[42],nl:=true,kp:=true} Tryz.func77
theorem o34:FnS E (N0 p) 34 No:=fnS [0,2] {} Tryz.func78
theorem o41:FnS E (N0 p) 41 Qg:=fnS [0,1,2] {ox:=[(213,some 1)]} Tryz.func200
theorem o49:FnS E (N0 p) 49 Np:=fnS [0,1,2] {hs:=[0]} Tryz.func60
theorem o50:FnS E (N0 p) 50 J8:=fnS [0,1,3,5,23,24,25] {hs:=[0],hf:=[60,90],bf:=[60,90]} Tryz.func61
theorem o51:FnS E (N0 p) 51 Qi:=fnS [0,1,2,5,6,7,9,11,13,80,81,82,101,102,103,112,113,114,128,129,130] {hs:=[0],hf:=[60,90,91,92,93,94],bf:=[60,90,91,92,93,94]} Tryz.func62
theorem o57:FnS E (N0 p) 57 Ns:=fnS [0,1,2] {hs:=[0]} Tryz.func63
theorem o58:FnS E (N0 p) 58 Le:=fnS [0,2,7] {hs:=[0,2,7]} Tryz.func64
theorem o59:FnS E (N0 p) 59 Nt:=fnS [0,1,2,7,9,10,11,12] {hs:=[0,1],hf:=[63,96],bf:=[63]} Tryz.func65
theorem o60:FnS E (N0 p) 60 Nu:=fnS [0,1,2,7,9,10,11,12,17,18,19] {hs:=[0,1],hf:=[63,96],bf:=[63]} Tryz.func66
theorem o61:FnS E (N0 p) 61 Ka:=fnS [0,1,2,3,7,9,11,12,13] {hs:=[0,2],hf:=[63,96,97,98],rs:=[50],bf:=[63,98]} Tryz.func67
theorem o62:FnS E (N0 p) 62 Qn:=fnS [0,1,2,3,7,8,9,10,11,12,13,14,16,18,19,20,36,37,38,61,62,63] {hs:=[0,2],hf:=[63,101],rs:=[50],bf:=[63,101]} Tryz.func68
theorem o63:FnS E (N0 p) 63 J1:=fnS [0,1,2,3,8,10,12,15,16,17,28,29,30] {hs:=[0,8],hf:=[64,77,98],rs:=[42],bf:=[98]} Tryz.func69
theorem o64:FnS E (N0 p) 64 Kb:=fnS [0,1,2,3] {} Tryz.func105
theorem o65:FnS E (N0 p) 65 Gl:=fnS [0,1,3,4,5] {} Tryz.func106
theorem o66:FnS E (N0 p) 66 Lo:=fnS [0,1,3,4,5,6] {} Tryz.func107
theorem o67:FnS E (N0 p) 67 Qo:=fnS [0,1,3,4,5,6,7,8,9,10] {} Tryz.func108
theorem o68:FnS E (N0 p) 68 Qp:=fnS [0,1,2,6,7,8,9,10] {} Tryz.func109
theorem o69:FnS E (N0 p) 69 Nv:=fnS [0,2,3,4] {ox:=[(1000000,none)]} Tryz.func110
theorem o70:FnS E (N0 p) 70 Qq:=fnS [0,1,2,3,4,6,7,8,9] {} Tryz.func111
theorem o71:FnS E (N0 p) 71 Qr:=fnS [0,1,2,3,4,6,7,8,9,10,11,12,13,14] {} Tryz.func112
theorem o72:FnS E (N0 p) 72 GA:=fnS [0,1,2,3,4,6,7,8,9,10] {} Tryz.func113
theorem o73:FnS E (N0 p) 73 Qs:=fnS [0,1,4,5,6] {} Tryz.func114
theorem o74:FnS E (N0 p) 74 Vq:=fnS [0,1,4] {rs:=[42],kp:=true} Tryz.func116
theorem o81:FnS E (N0 p) 81 Qt:=fnS [0,1,2] {} Tryz.func136
theorem o85:FnS E (N0 p) 85 Qu:=fnS [0,1,2,4,5] {ox:=[(213,some 1),(1000000,none)]} Tryz.func213
theorem o89:FnS E (N0 p) 89 Qv:=fnS [0,1] {hs:=[0],hf:=[60],bf:=[60]} Tryz.func90
theorem o90:FnS E (N0 p) 90 Qw:=fnS [0,1,2,7,9,10,11,12,47,48,49] {hs:=[0],hf:=[60,90],bf:=[60,90]} Tryz.func91
theorem o91:FnS E (N0 p) 91 Lp:=fnS [0,1,3,5,19,20,21] {hs:=[0],hf:=[60,90,94],bf:=[60,90,94]} Tryz.func92
theorem o92:FnS E (N0 p) 92 Kc:=fnS [0,1,2,4,7,9,11,29,30,31,72,73,74,83,84,85] {hs:=[0],hf:=[60,90,91,92,93,134],bf:=[60,90,91,92,93,134]} Tryz.func93
theorem o93:FnS E (N0 p) 93 Nw:=fnS [0,1] {hs:=[0],hf:=[60],bf:=[60]} Tryz.func94
theorem o94:FnS E (N0 p) 94 Nx:=Mu [0,1,2,3,4,5,14] {hs:=[2,4],hf:=[136],lps:=[(#[15],189,[2,4])]} [#[15]] Tryz.func95 (by kernel_rfl) (by decide) (by decide) ⟨⟨0,rfl,rfl⟩,trivial⟩
theorem o97:FnS E (N0 p) 97 Kd:=fnS [0,1,4] {hs:=[0]} Tryz.func96
theorem o98:FnS E (N0 p) 98 Jt:=fnS [0,1,4] {hs:=[0]} Tryz.func97
theorem o99:FnS E (N0 p) 99 Ls:=Mu [0,1,2,3,4,5,6,7,8,9,12] {hs:=[0,2,5,6,7,9],hf:=[136],lps:=[(#[13],190,[5,6,7,9])]} [#[13]] Tryz.func98 (by kernel_rfl) (by decide) (by decide) ⟨⟨0,rfl,rfl⟩,trivial⟩
theorem e0Y:FnS E (N0 p) 100 Qx:=fnS [0,1,4] {hf:=[139]} Tryz.func99
theorem e0Z:FnS E (N0 p) 101 Qy:=fnS [0,1,2,3] {} Tryz.func100
theorem e00:FnS E (N0 p) 102 QD:=fnS [0,1,2,3,7,8,9,11,13,15,17,21,22,23,39,40,41,52,53,54,77,78,79] {hs:=[0,2],hf:=[63,64,65,66,67,68,140,141],bf:=[63,65,66,67,68,140]} Tryz.func101
theorem e01:FnS E (N0 p) 103 Ny:=fnS [0,1,3,4] {} Tryz.func102
theorem e02:FnS E (N0 p) 104 Kf:=fnS [0,2,3] {} Tryz.func145
theorem e03:FnS E (N0 p) 105 QE:=fnS [0,1,2,6,7,8] {} Tryz.func146
theorem e04:FnS E (N0 p) 106 Nz:=fnS [0,1,3,4,5] {} Tryz.func147
theorem e05:FnS E (N0 p) 107 Kg:=fnS [0,1,2,4,6,7,8] {} Tryz.func148
theorem e06:FnS E (N0 p) 108 NA:=fnS [0,1,2,3,4,6,7,8,9,10,11,12,13,14,15,16,17,18] {} Tryz.func149
theorem e07:FnS E (N0 p) 109 QG:=fnS [0,1,2,3,6,7,8] {} Tryz.func150
theorem e08:FnS E (N0 p) 110 QH:=fnS [0,1,4] {hf:=[152],rs:=[50]} Tryz.func118
theorem e09:FnS E (N0 p) 114 NB:=fnS [0,1] {hf:=[177],bf:=[177]} Tryz.func176
theorem e1a:FnS E (N0 p) 115 NC:=fnS [0,1,4,5,7,8] {hv:=[11]} Tryz.func70
theorem e1b:FnS E (N0 p) 118 Ju:=fnS [0,2,3,22,23] {} Tryz.func131
theorem e1c:FnS E (N0 p) 119 Lt:=fnS [0,1,4,5,7] {} Tryz.func132
theorem e1d:FnS E (N0 p) 120 Lu:=fnS [0,1,2,6] {} Tryz.func133
theorem e1e:FnS E (N0 p) 121 QI:=fnS [0,1,2,3,9,10,11,12] {hs:=[0],hf:=[60,94],bf:=[60,94]} Tryz.func134
theorem e1f:FnS E (N0 p) 122 Lv:=Mu [0,1,2,14] {hs:=[2],hf:=[136],lps:=[(#[15],191,[2])]} [#[15]] Tryz.func135 (by kernel_rfl) (by decide) (by decide) ⟨⟨0,rfl,rfl⟩,trivial⟩
theorem e1g:FnS E (N0 p) 123 HK:=fnS [0,1,3,4,5,11,12] {} Tryz.func137
theorem e1h:FnS E (N0 p) 124 Jv:=fnS [0,1,2,3,6,8,9] {hs:=[0],hf:=[63],bf:=[63]} Tryz.func138
theorem e1i:FnS E (N0 p) 125 ND:=fnS [0,1,4,5,7,8] {hv:=[11]} Tryz.func139
theorem e1j:FnS E (N0 p) 126 NE:=fnS [0,1,2,3,9,10,11,12] {hs:=[0,2],hf:=[98],bf:=[98]} Tryz.func140
theorem e1k:FnS E (N0 p) 127 Lw:=fnS [0,1,4,5,6,7] {hf:=[178],hv:=[26],rs:=[50],kp:=true} Tryz.func141
theorem e1l:FnS E (N0 p) 128 NG:=fnS [0,1,3] {} Tryz.func142
theorem e1m:FnS E (N0 p) 129 QJ:=fnS [0,1,4] {hf:=[178]} Tryz.func143
theorem e1n:FnS E (N0 p) 130 QK:=fnS [0,1,3] {} Tryz.func144
theorem e1o:FnS E (N0 p) 131 QL:=fnS [0,2] {} Tryz.func179
theorem e1p:FnS E (N0 p) 132 NH:=fnS [0,2] {} Tryz.func180
theorem e1q:FnS E (N0 p) 133 QM:=fnS [0,2,3,4] {} Tryz.func181
theorem e1r:FnS E (N0 p) 134 IU:=fnS [0,1,2,4,6,7,8] {} Tryz.func182
theorem e1s:FnS E (N0 p) 135 Lx:=fnS [0,1,2,3,4] {} Tryz.func183
theorem e1t:FnS E (N0 p) 136 GR:=fnS [0,1,3,4,5,6] {} Tryz.func184
theorem e1u:FnS E (N0 p) 137 HM:=fnS [0,1,2,3,5,8,9,10,11] {} Tryz.func185
theorem e1v:FnS E (N0 p) 138 QN:=fnS [0,1,2,4,5,6] {} Tryz.func186
theorem e1w:FnS E (N0 p) 139 NI:=fnS [0,1,4,5,7,8] {rs:=[50]} Tryz.func152
theorem e1x:FnS E (N0 p) 141 HN:=fnS [0,1,2,4,6,12,13,14] {hf:=[177],hv:=[7],bf:=[177],bv:=[7]} Tryz.func177
theorem e1y:FnS E (N0 p) 142 QO:=fnS [0,2] {} Tryz.func167
theorem e1z:FnS E (N0 p) 143 QP:=fnS [0,2,3,4] {} Tryz.func168
theorem e1A:FnS E (N0 p) 144 NJ:=fnS [0,2] {} Tryz.func169
theorem e1B:FnS E (N0 p) 145 Lz:=fnS [0,1,4,5] {} Tryz.func170
theorem e1C:FnS E (N0 p) 146 QQ:=fnS [0,2] {} Tryz.func171
theorem e1D:FnS E (N0 p) 147 QR:=Mu [0,1,2,5] {hs:=[2],hf:=[136],lps:=[(#[6],192,[2])]} [#[6]] Tryz.func172 (by kernel_rfl) (by decide) (by decide) ⟨⟨0,rfl,rfl⟩,trivial⟩
theorem e1E:FnS E (N0 p) 148 QS:=Mu [0,1,2,3,5] {hs:=[3],hf:=[136],lps:=[(#[6],193,[3])]} [#[6]] Tryz.func173 (by kernel_rfl) (by decide) (by decide) ⟨⟨0,rfl,rfl⟩,trivial⟩
theorem e1F:FnS E (N0 p) 149 QT:=fnS [0,1,2,3,5,7,8,9] {} Tryz.func174
theorem e1G:FnS E (N0 p) 150 Fx:=fnS [0,1,2,3,4,5] {} Tryz.func175
theorem e1H:FnS E (N0 p) 151 Kh:=fnS [0,1,4,5,7,8] {hv:=[11],rs:=[50]} Tryz.func178
theorem e1I:FnS E (N0 p) 152 QV:=fnS [0,2] {} Tryz.func194
theorem e1J:FnS E (N0 p) 153 QX:=fnS [0] {} Tryz.func195
theorem e1K:FnS E (N0 p) 154 QY:=fnS [0,1,4] {} Tryz.func196
theorem e1L:FnS E (N0 p) 155 LA:=fnS [0,1,2,6] {} Tryz.func197
theorem e1M:FnS E (N0 p) 156 QZ:=fnS [0,1,2,3,4] {} Tryz.func198
theorem e1N:FnS E (N0 p) 157 Q0:=fnS [0,1,2,3,4] {} Tryz.func199
theorem e1O:FnS E (N0 p) 158 Ck:=fnS [0,1,2,3,4,55] {} Tryz.func201
theorem e1P:FnS E (N0 p) 159 Jw:=fnS [0,2] {} Tryz.func202
theorem e1Q:FnS E (N0 p) 160 Jx:=fnS [0,1,4] {} Tryz.func203
theorem e1R:FnS E (N0 p) 161 Q1:=fnS [0,1,2,3,8,9,10] {} Tryz.func204
theorem e1S:FnS E (N0 p) 162 Q2:=fnS [0,2] {} Tryz.func191
theorem e1T:FnS E (N0 p) 163 Em:=fnS [0,1,2,3,4,5,18,77] {} Tryz.func192
theorem e1U:FnS E (N0 p) 164 Iq:=fnS [0,2,3,4,5,6,7,8,9,10,11,12,13] {} Tryz.func193
theorem e1V:FnS E (N0 p) 165 FF:=fnS [0,1,2,3,8,9,33,38] {} Tryz.func214
theorem e1W:FnS E (N0 p) 166 Ki:=fnS [0,1,4] {} Tryz.func215
theorem e1X:FnS E (N0 p) 167 Ir:=fnS [0,2,3,4,5] {} Tryz.func216
theorem e1Y:FnS E (N0 p) 168 Q3:=fnS [0,1,2] {} Tryz.func217
theorem e1Z:FnS E (N0 p) 169 Kj:=fnS [0,1,4] {} Tryz.func206
theorem e10:FnS E (N0 p) 170 NK:=fnS [0,2] {} Tryz.func207
theorem e11:FnS E (N0 p) 171 LB:=fnS [0,1,4] {} Tryz.func208
theorem e12:FnS E (N0 p) 172 NM:=fnS [0,1,4,5,6] {} Tryz.func209
theorem e13:FnS E (N0 p) 173 Q4:=fnS [0,1,4,5] {} Tryz.func210
theorem e14:FnS E (N0 p) 174 Q5:=fnS [0,2,3,4,5,7,8] {} Tryz.func211
theorem e15:FnS E (N0 p) 175 LC:=fnS [0,1,2] {} Tryz.func212
theorem e16:FnS E (N0 p) 176 Q6:=fnS [0,1,4,5] {} Tryz.func220
theorem e17:FnS E (N0 p) 177 LF:=fnS [0,1,2] {} Tryz.func221
theorem e18:FnS E (N0 p) 178 Q7:=fnS [0,1,2,4,5,6,7] {} Tryz.func222
theorem e19:FnS E (N0 p) 179 NN:=fnS [0,1,4,5,6,7] {} Tryz.func218
theorem e2a:FnS E (N0 p) 180 NO:=fnS [0,1,4,5] {} Tryz.func219
theorem e2b:FnS E (N0 p) 181 NP:=fnS [0,1,4,5,6,7,8,9,10,11,12,13] {} Tryz.func223
theorem e2c:FnS E (N0 p) 182 LG:=fnS [0,1,4] {} Tryz.func224
theorem e2d:FnS E (N0 p) 184 Vy:=fnS [0,2] {} Tryz.func227
theorem e2e:FnS E (N0 p) 185 Vz:=fnS [0,1,4,5,6,7,8,9,10] {} Tryz.func228
theorem e2f:FnS E (N0 p) 186 VA:=fnS [0,2,3,4,5,6,7,8] {} Tryz.func230
theorem e2g:FnS E (N0 p) 189 NT:=rdS [2,4] [2,4,15,6,7] {hs:=[2,4]} 0 #[15] rfl Tryz.func95 (by kernel_rfl) (by kernel_rfl) (by decide)
theorem e2h:FnS E (N0 p) 190 Jy:=rdS [5,6,7,9] [5,6,7,9,13,10,15,16] {hs:=[5,6,7,9],hf:=[63,96,138],bf:=[63,138],rf:=[96]} 0 #[13] rfl Tryz.func98 (by kernel_rfl) (by kernel_rfl) (by decide)
theorem e2i:FnS E (N0 p) 191 NU:=rdS [2] [2,15,3,4] {hs:=[2]} 0 #[15] rfl Tryz.func135 (by kernel_rfl) (by kernel_rfl) (by decide)
theorem e2j:FnS E (N0 p) 192 IV:=rdS [2] [2,6,3,8,9] {hs:=[2]} 0 #[6] rfl Tryz.func172 (by kernel_rfl) (by kernel_rfl) (by decide)
theorem e2k:FnS E (N0 p) 193 Q8:=rdS [3] [3,6] {hs:=[3]} 0 #[6] rfl Tryz.func173 (by kernel_rfl) (by kernel_rfl) (by decide)
theorem e2l:FnS E (N0 p) 197 Nh:=fnS [0,1,2,3,4,5,6,7,8,9,20,21,22] {} Tryz.func8
theorem e2m:FnS E (N0 p) 198 PM:=fnS [0,1,2,3,4,5,7,8,9,10] {hf:=[26],rs:=[43],zd:=[11,40]} Tryz.func10
theorem e2n:FnS E (N0 p) 199 VC:=fnS [0,1,2,4,5,6,7] {} Tryz.func11
theorem e2o:FnS E (N0 p) 200 VD:=fnS [0,1,2,4,5,6,7] {} Tryz.func13
theorem e2p:FnS E (N0 p) 201 Q9:=fnS [0,1,2] {} Tryz.func18
theorem e2q:FnS E (N0 p) 202 VE:=fnS [0,1,4,5] {} Tryz.func15
theorem e2r:FnS E (N0 p) 204 LH:=fnS [0,1,2,3,4,5] {} Tryz.func20
theorem e2s:FnS E (N0 p) 205 NV:=fnS [0,1,2,3,4,6,7,9,10,12,14,36,37,38,51,52,53] {hs:=[9],hv:=[45,62],rs:=[36]} Tryz.func21
theorem e2t:FnS E (N0 p) 206 VF:=fnS [0,1,4,5] {} Tryz.func16
theorem e2u:FnS E (N0 p) 207 VG:=fnS [0,1,2] {rs:=[43]} Tryz.func26
theorem e2v:FnS E (N0 p) 208 VH:=fnS [0,2] {} Tryz.func27
theorem e2w:FnS E (N0 p) 209 Ro:=fnS [0,1,2,3,4,5,7,8,10,11,12,13,14,16,18,20,23,24,25,31,32,33,44,45,46,57,58,59,67,68,69,78,79,80,86,87,88] {hs:=[11],hf:=[49,53],hv:=[73,92],rs:=[33]} Tryz.func28
theorem e2x:FnS E (N0 p) 210 Rr:=fnS [0,1,4,5,6,7,9,11,12,13,14,15,16,18,28,29,30,34,35,36,49,50,51,52,81,82,83] {hs:=[7,12,49],hf:=[56,57,58],rs:=[36,108],pz:=[55]} Tryz.func29
theorem e2y:FnS E (N0 p) 211 Rs:=fnS [0,1,4] {hf:=[70]} Tryz.func34
theorem e2z:FnS E (N0 p) 212 Rt:=fnS [0,1,2] {} Tryz.func35
theorem e2A:FnS E (N0 p) 213 Rw:=fnS [0,1,4,5,6,7,8,9,10,11,28,29,30,50,51] {hs:=[6,8,28],hf:=[71],rs:=[36,84],nl:=true,fr:=[20,22,24,26],pa:=[36],pz:=[55]} Tryz.func36
theorem e2B:FnS E (N0 p) 214 LK:=fnS [0,1] {hs:=[1]} Tryz.func37
theorem e2C:FnS E (N0 p) 215 VO:=fnS [0,1,2,3,4] {} Tryz.func45
theorem e2D:FnS E (N0 p) 216 LL:=fnS [0,1,2,3,5,6] {hs:=[2],rs:=[33]} Tryz.func47
theorem e2E:FnS E (N0 p) 217 Rx:=fnS [0,1,2] {ox:=[(79,some 0)]} Tryz.func48
theorem e2F:FnS E (N0 p) 219 VQ:=fnS [0,1,2,3,4] {} Tryz.func50
theorem e2G:FnS E (N0 p) 220 LM:=fnS [0,2,3,4,5] {rs:=[33],kp:=true} Tryz.func53
theorem e2H:FnS E (N0 p) 221 Rz:=fnS [0,1,2,3,6,7,9,17,18,19] {hv:=[23,29]} Tryz.func54
theorem e2I:FnS E (N0 p) 222 RC:=fnS [0,1,4,5,7,8,11,12,13,32,33] {hs:=[5],hf:=[86,87],rs:=[36,84]} Tryz.func55
theorem e2J:FnS E (N0 p) 223 RD:=fnS [0,1] {hf:=[88]} Tryz.func56
theorem e2K:FnS E (N0 p) 224 RE:=fnS [0,2] {} Tryz.func57
theorem e2L:FnS E (N0 p) 225 RF:=fnS [0,2,3] {hf:=[89]} Tryz.func58
theorem e2M:FnS E (N0 p) 226 RG:=fnS [0,1,2,6] {rs:=[108]} Tryz.func248
theorem e2N:FnS E (N0 p) 227 RH:=fnS [0,2,3,4] {hs:=[0],rs:=[108]} Tryz.func249
theorem e2O:FnS E (N0 p) 228 RJ:=fnS [0,1] {hs:=[0],rs:=[108]} Tryz.func250
theorem e2P:FnS E (N0 p) 229 RK:=fnS [0,1,2] {rs:=[108],sr:=true} Tryz.func251
theorem e2Q:FnS E (N0 p) 230 RM:=fnS [0,1,4,5,6,7,8] {hs:=[0,5],hf:=[103,104],rs:=[36,64,174]} Tryz.func71
theorem e2R:FnS E (N0 p) 231 LO:=fnS [0,1,2,4,6,7,8,24,25,26] {ox:=[(79,some 0),(1000000,none)]} Tryz.func79
theorem e2S:FnS E (N0 p) 232 VU:=fnS [0,2,3,5,6,7,8] {} Tryz.func51
theorem e2T:FnS E (N0 p) 233 VV:=fnS [0,1,4,5,6] {} Tryz.func52
theorem e2U:FnS E (N0 p) 234 RP:=fnS [0,1,3] {} Tryz.func83
theorem e2V:FnS E (N0 p) 235 RQ:=fnS [0,1,4] {hf:=[129]} Tryz.func84
theorem e2W:FnS E (N0 p) 236 VW:=fnS [0,1,3] {hv:=[4]} Tryz.func85
theorem e2X:FnS E (N0 p) 237 LP:=fnS [0,2,3,4,5] {rs:=[36],kp:=true} Tryz.func87
theorem e2Y:FnS E (N0 p) 238 RS:=fnS [0,1,4] {} Tryz.func88
theorem e2Z:FnS E (N0 p) 239 RT:=fnS [0,1,2,6,7,8,9,10] {} Tryz.func89
theorem e20:FnS E (N0 p) 240 NZ:=fnS [0,1,4] {hs:=[0],rs:=[36,64],sr:=true} Tryz.func103
theorem e21:FnS E (N0 p) 241 N1:=fnS [0,1,4] {hs:=[0],rs:=[36,64]} Tryz.func104
theorem e22:FnS E (N0 p) 242 Kk:=fnS [0,1,2] {} Tryz.func117
theorem e23:FnS E (N0 p) 243 Wb:=fnS [0,2] {} Tryz.func82
theorem e24:FnS E (N0 p) 244 RU:=fnS [0,1,4,5,7,8] {hv:=[11]} Tryz.func129
theorem e25:FnS E (N0 p) 245 P8:=fnS [0,1,2,3,4,5,6] {} Tryz.func3
theorem e26:FnS E (N0 p) 247 Ng:=fnS [0,1,2,3,4,5,6,7,8,10,11,12,13] {} Tryz.func9
theorem e27:FnS E (N0 p) 250 Li:=fnS [0,1,2,3,4,5] {} Tryz.func22
theorem e28:FnS E (N0 p) 251 RW:=fnS [0,1,2,3,4,5,6,7] {} Tryz.func23
theorem e29:FnS E (N0 p) 252 RZ:=fnS [0,1,4,5,6,7,8,9,10,11] {hs:=[7]} Tryz.func24
theorem e3a:FnS E (N0 p) 253 R0:=fnS [0,1,2,6,7] {} Tryz.func25
theorem e3b:FnS E (N0 p) 254 R4:=fnS [0,1,2,3] {} Tryz.func39
theorem e3c:FnS E (N0 p) 255 R7:=fnS [0,1,2,3,4,5,6,7,8,9] {ox:=[(75,none)]} Tryz.func40
theorem e3d:FnS E (N0 p) 256 R8:=fnS [0,1,4,5] {} Tryz.func41
theorem e3e:FnS E (N0 p) 257 R9:=fnS [0,1,4,5] {} Tryz.func42
theorem e3f:FnS E (N0 p) 258 Sa:=fnS [0,1,4,5,6] {hs:=[5]} Tryz.func43
theorem e3g:FnS E (N0 p) 259 Se:=fnS [0,1,2,6,7,8,9,10,11] {hs:=[7],ox:=[(1000001,none)]} Tryz.func44
theorem e3h:FnS E (N0 p) 260 Sf:=fnS [0,1,2] {ox:=[(115,some 2),(1000000,none)]} Tryz.func75
theorem e3i:FnS E (N0 p) 261 LQ:=fnS [0,1,2,3,6,7] {ox:=[(115,some 2),(1000000,none)]} Tryz.func115
theorem e3j:FnS E (N0 p) 262 N2:=fnS [0,1,2] {} Tryz.func151
theorem d9O(h39:IP (N0 p) Tryz.prog 39 Js)(h183:IP (N0 p) Tryz.prog 183 NQ)(h218:IP (N0 p) Tryz.prog 218 (IQ 219))(h27:IM (N0 p) Tryz.prog 27 (Gz 1))(h48:IM (N0 p) Tryz.prog 48 (Gz 2)):∀k a,LS k=some a->FnS E (N0 p) k a:=by have all:AllFn E (N0 p) 0 LSt:=⟨o8,o9,o11,o12,o21,o23,.inl ⟨rfl,rfl,by decide,.inr (.inr ⟨_,Tryz.f31,rfl,rfl,rfl,Tryz.func31,by decide,by kernel_rfl,h27⟩)⟩,o28,o29,o30,o31,o33,o34,.inl ⟨rfl,rfl,by decide,.inr (.inl ⟨_,Tryz.f86,rfl,rfl,Tryz.func86,by decide,by kernel_rfl,h39⟩)⟩,o41,.inl ⟨rfl,rfl,by decide,.inr (.inr ⟨_,Tryz.f59,rfl,rfl,rfl,Tryz.func59,by decide,by kernel_rfl,h48⟩)⟩,o49,o50,o51,o57,o58,o59,o60,o61,o62,o63,o64,o65,o66,o67,o68,o69,o70,o71,o72,o73,o74,o81,o85,o89,o90,o91,o92,o93,o94,o97,o98,o99,e0Y,e0Z,e00,e01,e02,e03,e04,e05,e06,e07,e08,e09,e1a,e1b,e1c,e1d,e1e,e1f,e1g,e1h,e1i,e1j,e1k,e1l,e1m,e1n,e1o,e1p,e1q,e1r,e1s,e1t,e1u,e1v,e1w,e1x,e1y,e1z,e1A,e1B,e1C,e1D,e1E,e1F,e1G,e1H,e1I,e1J,e1K,e1L,e1M,e1N,e1O,e1P,e1Q,e1R,e1S,e1T,e1U,e1V,e1W,e1X,e1Y,e1Z,e10,e11,e12,e13,e14,e15,e16,e17,e18,e19,e2a,e2b,e2c,.inl ⟨rfl,rfl,by decide,.inr (.inl ⟨_,Tryz.f225,rfl,rfl,Tryz.func225,by decide,by kernel_rfl,h183⟩)⟩,e2d,e2e,e2f,e2g,e2h,e2i,e2j,e2k,e2l,e2m,e2n,e2o,e2p,e2q,e2r,e2s,e2t,e2u,e2v,e2w,e2x,e2y,e2z,e2A,e2B,e2C,e2D,e2E,.inl ⟨rfl,rfl,by decide,.inr (.inl ⟨_,Tryz.f49,rfl,rfl,Tryz.func49,by decide,by kernel_rfl,h218⟩)⟩,e2F,e2G,e2H,e2I,e2J,e2K,e2L,e2M,e2N,e2O,e2P,e2Q,e2R,e2S,e2T,e2U,e2V,e2W,e2X,e2Y,e2Z,e20,e21,e22,e23,e24,e25,e26,e27,e28,e29,e3a,e3b,e3c,e3d,e3e,e3f,e3g,e3h,e3i,e3j,trivial⟩;intro k a h;have:=all.get (k:=k) (f:=a) h;rwa[bu]at this
end
end Go.Proofs.YtljbhgpanekomaaGreat.Pi
