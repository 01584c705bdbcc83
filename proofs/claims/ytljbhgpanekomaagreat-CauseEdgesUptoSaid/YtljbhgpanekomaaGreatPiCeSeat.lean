import Derived.Test.YtljbhgpanekomaaGreatChecked
import Derived.Test.YtljbhgpanekomaaGreatPiLaw
import Derived.Test.YtljbhgpanekomaaGreatPiLaw
import Derived.Test.YtljbhgpanekomaaGreatPiCeCode
import Derived.KernelRfl
set_option maxRecDepth 100000
set_option linter.unusedSectionVars false
namespace Go.Proofs.YtljbhgpanekomaaGreat.Pi
open Go PI PI.Sc
def tab:List Nat:=[1000000,1000000,1000000,1000000,1000000,1000000,1000000,1000000,17,38,1000000,46,76,1000000,1000000,1000000,1000000,1000000,1000000,1000000,1000000,73,1000000,30,1000000,1000000,1000000,31,32,33,72,74,1000000,77,78,1000000,1000000,1000000,1000000,86,1000000,200,1000000,1000000,1000000,1000000,1000000,1000000,59,60,61,62,1000000,1000000,1000000,1000000,1000000,63,64,65,66,67,68,69,105,106,107,108,109,110,111,112,113,114,116,1000000,1000000,1000000,1000000,1000000,1000000,136,1000000,1000000,1000000,213,1000000,1000000,1000000,90,91,92,93,94,95,1000000,1000000,96,97,98,99,100,101,102,145,146,147,148,149,150,118,1000000,1000000,1000000,176,70,1000000,1000000,131,132,133,134,135,137,138,139,140,141,142,143,144,179,180,181,182,183,184,185,186,152,1000000,177,167,168,169,170,171,172,173,174,175,178,194,195,196,197,198,199,201,202,203,204,191,192,193,214,215,216,217,206,207,208,209,210,211,212,220,221,222,218,219,223,224,225,227,228,230,1000000,1000000,1000000,1000000,1000000,1000000,1000000,1000000,1000000,1000000,8,10,11,13,18,15,1000000,20,21,16,26,27,28,29,34,35,36,37,45,47,48,49,50,53,54,55,56,57,58,248,249,250,251,71,79,51,52,83,84,85,87,88,89,103,104,117,82,129,1000000,4,1000000,12,14,22,23,24,1000000,39,40,41,42,43,1000000,75,115,151]
def Ru:List Nat:=[0,0,0,0,0,0,0,0,17,38,0,46,76,0,0,0,0,0,0,0,0,73,0,30,0,0,0,31,32,33,72,74,0,77,78,0,0,0,0,86,0,200,0,0,0,0,0,0,59,60,61,62,0,0,0,0,0,63,64,65,66,67,68,69,105,106,107,108,109,110,111,112,113,114,116,0,0,0,0,0,0,136,0,0,0,213,0,0,0,90,91,92,93,94,95,0,0,96,97,98,99,100,101,102,145,146,147,148,149,150,118,0,0,0,176,70,0,0,131,132,133,134,135,137,138,139,140,141,142,143,144,179,180,181,182,183,184,185,186,152,0,177,167,168,169,170,171,172,173,174,175,178,194,195,196,197,198,199,201,202,203,204,191,192,193,214,215,216,217,206,207,208,209,210,211,212,220,221,222,218,219,223,224,225,227,228,230,0,0,95,98,135,172,173,0,0,0,8,10,11,13,18,15,0,20,21,16,26,27,28,29,34,35,36,37,45,47,48,49,50,53,54,55,56,57,58,248,249,250,251,71,79,51,52,83,84,85,87,88,89,103,104,117,82,129,0,4,0,12,14,22,23,24,0,39,40,41,42,43,0,75,115,151]
noncomputable def yl:Nat->Option YL|189=>yOf Tryz.f95 95 0 [2,4]|190=>yOf Tryz.f98 98 0 [5,6,7,9]|191=>yOf Tryz.f135 135 0 [2]|192=>yOf Tryz.f172 172 0 [2]|193=>yOf Tryz.f173 173 0 [3]|_=>none
noncomputable def E:Env:={P:=Tryz.prog,inv:=λf=>if f<1000000 then BN f tab 0 else none,tinv:=λ_=>none,bT:=none,pt:=[70,113,3,107]}
structure Ps where
 tabs:List (Nat×Nat×Value)
 rows:List (Nat×TypeId×Nat)
 errT:Nat
noncomputable def N0(p:Ps):Nm:={fn:=λk=>Ru.getD k 0,ty:=λt=>if t=0 then p.errT else([70,113,3,107]:List Nat).getD (t-1) 0,tabs:=p.tabs,rows:=p.rows,bT:=0,bE:=5,yl:=yl}
theorem d8X:(List.range 263).all (λk=>decide (1000000<=tab.getD k 0)||tab.getD k 0==Ru.getD k 0)=true:=by kernel_rfl
theorem d8Y:(List.range 263).all (λk=>decide (1000000<=tab.getD k 0)||!([189,190,191,192,193]:List Nat).contains k)=true:=by kernel_rfl
theorem WL{f k:Nat}(h:E.inv f=some k):f<1000000/\tab[k]?=some f:=by have h:(if f<1000000 then BN f tab 0 else none)=some k:=h;split at h;{obtain⟨_,h2⟩:=GN h;exact⟨by assumption,by simpa using h2⟩};simp at h
theorem Ok(p:Ps):EnvOk E (N0 p):=⟨λf k h=>by obtain⟨h5,h2⟩:=WL h;have hk:k<263:=(aj.1 h2).1;have h3:=bo.1 d8X k (by simpa using hk);(have h4:tab.getD k 0=f:=by rw[dY,h2];rfl);rw[h4]at h3;show Ru.getD k 0=f;simp only[dS,al,dj]at h3;rcases h3 with h3|h3;{omega};exact h3.symm,λf k h=>by obtain⟨h5,h2⟩:=WL h;have hk:k<263:=(aj.1 h2).1;have h3:=bo.1 d8Y k (by simpa using hk);(have h4:tab.getD k 0=f:=by rw[dY,h2];rfl);rw[h4]at h3;simp only[dS,al,cy,List.contains_eq_mem,ci]at h3;rcases h3 with h3|h3;{omega};show yl k=none;unfold yl;split<;>first|rfl|(exfalso;apply h3;decide),λT i h=>by obtain⟨_,h2⟩:=GN (show BN T [70,113,3,107] 0=some i from h);show(if i+1=0 then p.errT else([70,113,3,107]:List Nat).getD (i+1-1) 0)=T;rw[ai (by omega),dY,show([70,113,3,107]:List Nat)[i+1-1]?=some T by simpa using h2];rfl,λt h=>by simp[E]at h⟩
theorem mixed:Tryz.prog.follows .mixedOrders=true:=by kernel_rfl
section
variable{p:Ps}
theorem o8:FnS E (N0 p) 8 LI:=fnS [0,1,2,3,4,5,6,7,8,10,11,26,28,29,30,42,43,44,57,58] {hs:=[2,3,6,26],hf:=[32,33],bf:=[32,33]} Tryz.func17
theorem o9:FnS E (N0 p) 9 LL:=fnS [0,1,2,3,4,5,6,7,8,9,10,11,12] {} Tryz.func38
theorem o11:FnS E (N0 p) 11 LM:=fnS [0,1,2,3,4,5,14,15,16] {hf:=[77],rs:=[42]} Tryz.func46
theorem o12:FnS E (N0 p) 12 Oo:=fnS [0,1,2] {} Tryz.func76
theorem o21:FnS E (N0 p) 21 Oq:=fnS [0,1,4,5] {} Tryz.func73
theorem o23:FnS E (N0 p) 23 Ot:=fnS [0,1,2,3,4,6,7,8,14,28,29,30,39,40,41] {hs:=[2,3,4,14],hf:=[60,61,62],bf:=[60,61,62]} Tryz.func30
theorem o28:FnS E (N0 p) 28 LO:=fnS [0,1,2,4,7] {hs:=[0],hf:=[63],bf:=[63]} Tryz.func32
theorem o29:FnS E (N0 p) 29 IB:=fnS [0,1,4,5,7,8,9,11,13,49,50,51,63,64,65,86,87,88,121,122,123] {hs:=[0,4,5],hf:=[32,63,64,65,66,67,68,69],bf:=[32,63,65,66,67,68,69]} Tryz.func33
theorem o30:FnS E (N0 p) 30 JO:=fnS [0,1,2,3,4,5,6,7,8,9,10] {} Tryz.func72
theorem o31:FnS E (N0 p) 31 Ou:=fnS [0,1,2,3,6,7,8,9,10,11,12,13,14,15,16,17,18,19,20,21] {hs:=[12],ox:=[(110,none)],lv:=true} Tryz.func74
theorem o33:FnS E (N0 p) 33 Tt:=fnS [0,2,3,5,6,8,9,10,11,25,26,27] {hf:=[116],rs:=[42],nl:=true,kp:=true} Tryz.func77
theorem o34:FnS E (N0 p) 34 LP:=fnS [0,2] {} Tryz.func78
theorem o41:FnS E (N0 p) 41 Ov:=fnS [0,1,2] {ox:=[(213,some 1)]} Tryz.func200
theorem o49:FnS E (N0 p) 49 LQ:=fnS [0,1,2] {hs:=[0]} Tryz.func60
theorem o50:FnS E (N0 p) 50 IE:=fnS [0,1,3,5,23,24,25] {hs:=[0],hf:=[60,90],bf:=[60,90]} Tryz.func61
theorem o51:FnS E (N0 p) 51 Ox:=fnS [0,1,2,5,6,7,9,11,13,80,81,82,101,102,103,112,113,114,128,129,130] {hs:=[0],hf:=[60,90,91,92,93,94],bf:=[60,90,91,92,93,94]} Tryz.func62
theorem o57:FnS E (N0 p) 57 LU:=fnS [0,1,2] {hs:=[0]} Tryz.func63
theorem o58:FnS E (N0 p) 58 JI:=fnS [0,2,7] {hs:=[0,2,7]} Tryz.func64
theorem o59:FnS E (N0 p) 59 LV:=fnS [0,1,2,7,9,10,11,12] {hs:=[0,1],hf:=[63,96],bf:=[63]} Tryz.func65
theorem o60:FnS E (N0 p) 60 LW:=fnS [0,1,2,7,9,10,11,12,17,18,19] {hs:=[0,1],hf:=[63,96],bf:=[63]} Tryz.func66
theorem o61:FnS E (N0 p) 61 IG:=fnS [0,1,2,3,7,9,11,12,13] {hs:=[0,2],hf:=[63,96,97,98],rs:=[50],bf:=[63,98]} Tryz.func67
theorem o62:FnS E (N0 p) 62 OC:=fnS [0,1,2,3,7,8,9,10,11,12,13,14,16,18,19,20,36,37,38,61,62,63] {hs:=[0,2],hf:=[63,101],rs:=[50],bf:=[63,101]} Tryz.func68
theorem o63:FnS E (N0 p) 63 Iz:=fnS [0,1,2,3,8,10,12,15,16,17,28,29,30] {hs:=[0,8],hf:=[64,77,98],rs:=[42],bf:=[98]} Tryz.func69
theorem o64:FnS E (N0 p) 64 IH:=fnS [0,1,2,3] {} Tryz.func105
theorem o65:FnS E (N0 p) 65 ES:=fnS [0,1,3,4,5] {} Tryz.func106
theorem o66:FnS E (N0 p) 66 JQ:=fnS [0,1,3,4,5,6] {} Tryz.func107
theorem o67:FnS E (N0 p) 67 OD:=fnS [0,1,3,4,5,6,7,8,9,10] {} Tryz.func108
theorem o68:FnS E (N0 p) 68 OE:=fnS [0,1,2,6,7,8,9,10] {} Tryz.func109
theorem o69:FnS E (N0 p) 69 LX:=fnS [0,2,3,4] {ox:=[(1000000,none)]} Tryz.func110
theorem o70:FnS E (N0 p) 70 OF:=fnS [0,1,2,3,4,6,7,8,9] {} Tryz.func111
theorem o71:FnS E (N0 p) 71 OG:=fnS [0,1,2,3,4,6,7,8,9,10,11,12,13,14] {} Tryz.func112
theorem o72:FnS E (N0 p) 72 E6:=fnS [0,1,2,3,4,6,7,8,9,10] {} Tryz.func113
theorem o73:FnS E (N0 p) 73 OH:=fnS [0,1,4,5,6] {} Tryz.func114
theorem o74:FnS E (N0 p) 74 TA:=fnS [0,1,4] {rs:=[42],kp:=true} Tryz.func116
theorem o81:FnS E (N0 p) 81 OJ:=fnS [0,1,2] {} Tryz.func136
theorem o85:FnS E (N0 p) 85 OL:=fnS [0,1,2,4,5] {ox:=[(213,some 1),(1000000,none)]} Tryz.func213
theorem o89:FnS E (N0 p) 89 OM:=fnS [0,1] {hs:=[0],hf:=[60],bf:=[60]} Tryz.func90
theorem o90:FnS E (N0 p) 90 OO:=fnS [0,1,2,7,9,10,11,12,47,48,49] {hs:=[0],hf:=[60,90],bf:=[60,90]} Tryz.func91
theorem o91:FnS E (N0 p) 91 JR:=fnS [0,1,3,5,19,20,21] {hs:=[0],hf:=[60,90,94],bf:=[60,90,94]} Tryz.func92
theorem o92:FnS E (N0 p) 92 II:=fnS [0,1,2,4,7,9,11,29,30,31,72,73,74,83,84,85] {hs:=[0],hf:=[60,90,91,92,93,134],bf:=[60,90,91,92,93,134]} Tryz.func93
theorem o93:FnS E (N0 p) 93 LY:=fnS [0,1] {hs:=[0],hf:=[60],bf:=[60]} Tryz.func94
theorem o94:FnS E (N0 p) 94 LZ:=KV [0,1,2,3,4,5,14] {hs:=[2,4],hf:=[136],lps:=[(#[15],189,[2,4])]} [#[15]] Tryz.func95 (by kernel_rfl) (by decide) (by decide) ⟨⟨0,rfl,rfl⟩,trivial⟩
theorem o97:FnS E (N0 p) 97 IJ:=fnS [0,1,4] {hs:=[0]} Tryz.func96
theorem o98:FnS E (N0 p) 98 HP:=fnS [0,1,4] {hs:=[0]} Tryz.func97
theorem o99:FnS E (N0 p) 99 JU:=KV [0,1,2,3,4,5,6,7,8,9,12] {hs:=[0,2,5,6,7,9],hf:=[136],lps:=[(#[13],190,[5,6,7,9])]} [#[13]] Tryz.func98 (by kernel_rfl) (by decide) (by decide) ⟨⟨0,rfl,rfl⟩,trivial⟩
theorem e0b:FnS E (N0 p) 100 OP:=fnS [0,1,4] {hf:=[139]} Tryz.func99
theorem e0c:FnS E (N0 p) 101 OQ:=fnS [0,1,2,3] {} Tryz.func100
theorem e0d:FnS E (N0 p) 102 OW:=fnS [0,1,2,3,7,8,9,11,13,15,17,21,22,23,39,40,41,52,53,54,77,78,79] {hs:=[0,2],hf:=[63,64,65,66,67,68,140,141],bf:=[63,65,66,67,68,140]} Tryz.func101
theorem e0e:FnS E (N0 p) 103 L1:=fnS [0,1,3,4] {} Tryz.func102
theorem e0f:FnS E (N0 p) 104 IL:=fnS [0,2,3] {} Tryz.func145
theorem e0g:FnS E (N0 p) 105 OX:=fnS [0,1,2,6,7,8] {} Tryz.func146
theorem e0h:FnS E (N0 p) 106 L2:=fnS [0,1,3,4,5] {} Tryz.func147
theorem e0i:FnS E (N0 p) 107 IM:=fnS [0,1,2,4,6,7,8] {} Tryz.func148
theorem e0j:FnS E (N0 p) 108 L3:=fnS [0,1,2,3,4,6,7,8,9,10,11,12,13,14,15,16,17,18] {} Tryz.func149
theorem e0k:FnS E (N0 p) 109 OY:=fnS [0,1,2,3,6,7,8] {} Tryz.func150
theorem e0l:FnS E (N0 p) 110 OZ:=fnS [0,1,4] {hf:=[152],rs:=[50]} Tryz.func118
theorem e0m:FnS E (N0 p) 114 L4:=fnS [0,1] {hf:=[177],bf:=[177]} Tryz.func176
theorem e0n:FnS E (N0 p) 115 L5:=fnS [0,1,4,5,7,8] {hv:=[11]} Tryz.func70
theorem e0o:FnS E (N0 p) 118 HQ:=fnS [0,2,3,22,23] {} Tryz.func131
theorem e0p:FnS E (N0 p) 119 JV:=fnS [0,1,4,5,7] {} Tryz.func132
theorem e0q:FnS E (N0 p) 120 JW:=fnS [0,1,2,6] {} Tryz.func133
theorem e0r:FnS E (N0 p) 121 O0:=fnS [0,1,2,3,9,10,11,12] {hs:=[0],hf:=[60,94],bf:=[60,94]} Tryz.func134
theorem e0s:FnS E (N0 p) 122 JX:=KV [0,1,2,14] {hs:=[2],hf:=[136],lps:=[(#[15],191,[2])]} [#[15]] Tryz.func135 (by kernel_rfl) (by decide) (by decide) ⟨⟨0,rfl,rfl⟩,trivial⟩
theorem e0t:FnS E (N0 p) 123 F7:=fnS [0,1,3,4,5,11,12] {} Tryz.func137
theorem e0u:FnS E (N0 p) 124 HS:=fnS [0,1,2,3,6,8,9] {hs:=[0],hf:=[63],bf:=[63]} Tryz.func138
theorem e0v:FnS E (N0 p) 125 L6:=fnS [0,1,4,5,7,8] {hv:=[11]} Tryz.func139
theorem e0w:FnS E (N0 p) 126 L7:=fnS [0,1,2,3,9,10,11,12] {hs:=[0,2],hf:=[98],bf:=[98]} Tryz.func140
theorem e0x:FnS E (N0 p) 127 JY:=fnS [0,1,4,5,6,7] {hf:=[178],hv:=[26],rs:=[50],kp:=true} Tryz.func141
theorem e0y:FnS E (N0 p) 128 L8:=fnS [0,1,3] {} Tryz.func142
theorem e0z:FnS E (N0 p) 129 O1:=fnS [0,1,4] {hf:=[178]} Tryz.func143
theorem e0A:FnS E (N0 p) 130 O2:=fnS [0,1,3] {} Tryz.func144
theorem e0B:FnS E (N0 p) 131 O3:=fnS [0,2] {} Tryz.func179
theorem e0C:FnS E (N0 p) 132 L9:=fnS [0,2] {} Tryz.func180
theorem e0D:FnS E (N0 p) 133 O4:=fnS [0,2,3,4] {} Tryz.func181
theorem e0E:FnS E (N0 p) 134 He:=fnS [0,1,2,4,6,7,8] {} Tryz.func182
theorem e0F:FnS E (N0 p) 135 JZ:=fnS [0,1,2,3,4] {} Tryz.func183
theorem e0G:FnS E (N0 p) 136 Fm:=fnS [0,1,3,4,5,6] {} Tryz.func184
theorem e0H:FnS E (N0 p) 137 F8:=fnS [0,1,2,3,5,8,9,10,11] {} Tryz.func185
theorem e0I:FnS E (N0 p) 138 O5:=fnS [0,1,2,4,5,6] {} Tryz.func186
theorem e0J:FnS E (N0 p) 139 Ma:=fnS [0,1,4,5,7,8] {rs:=[50]} Tryz.func152
theorem e0K:FnS E (N0 p) 141 F9:=fnS [0,1,2,4,6,12,13,14] {hf:=[177],hv:=[7],bf:=[177],bv:=[7]} Tryz.func177
theorem e0L:FnS E (N0 p) 142 O6:=fnS [0,2] {} Tryz.func167
theorem e0M:FnS E (N0 p) 143 O7:=fnS [0,2,3,4] {} Tryz.func168
theorem e0N:FnS E (N0 p) 144 Mb:=fnS [0,2] {} Tryz.func169
theorem e0O:FnS E (N0 p) 145 J1:=fnS [0,1,4,5] {} Tryz.func170
theorem e0P:FnS E (N0 p) 146 O8:=fnS [0,2] {} Tryz.func171
theorem e0Q:FnS E (N0 p) 147 O9:=KV [0,1,2,5] {hs:=[2],hf:=[136],lps:=[(#[6],192,[2])]} [#[6]] Tryz.func172 (by kernel_rfl) (by decide) (by decide) ⟨⟨0,rfl,rfl⟩,trivial⟩
theorem e0R:FnS E (N0 p) 148 Pa:=KV [0,1,2,3,5] {hs:=[3],hf:=[136],lps:=[(#[6],193,[3])]} [#[6]] Tryz.func173 (by kernel_rfl) (by decide) (by decide) ⟨⟨0,rfl,rfl⟩,trivial⟩
theorem e0S:FnS E (N0 p) 149 Pb:=fnS [0,1,2,3,5,7,8,9] {} Tryz.func174
theorem e0T:FnS E (N0 p) 150 D7:=fnS [0,1,2,3,4,5] {} Tryz.func175
theorem e0U:FnS E (N0 p) 151 IP:=fnS [0,1,4,5,7,8] {hv:=[11],rs:=[50]} Tryz.func178
theorem e0V:FnS E (N0 p) 152 Pd:=fnS [0,2] {} Tryz.func194
theorem e0W:FnS E (N0 p) 153 Pe:=fnS [0] {} Tryz.func195
theorem e0X:FnS E (N0 p) 154 Pf:=fnS [0,1,4] {} Tryz.func196
theorem e0Y:FnS E (N0 p) 155 J2:=fnS [0,1,2,6] {} Tryz.func197
theorem e0Z:FnS E (N0 p) 156 Pg:=fnS [0,1,2,3,4] {} Tryz.func198
theorem e00:FnS E (N0 p) 157 Ph:=fnS [0,1,2,3,4] {} Tryz.func199
theorem e01:FnS E (N0 p) 158 A4:=fnS [0,1,2,3,4,55] {} Tryz.func201
theorem e02:FnS E (N0 p) 159 HT:=fnS [0,2] {} Tryz.func202
theorem e03:FnS E (N0 p) 160 HV:=fnS [0,1,4] {} Tryz.func203
theorem e04:FnS E (N0 p) 161 Pj:=fnS [0,1,2,3,8,9,10] {} Tryz.func204
theorem e05:FnS E (N0 p) 162 Pk:=fnS [0,2] {} Tryz.func191
theorem e06:FnS E (N0 p) 163 CW:=fnS [0,1,2,3,4,5,18,77] {} Tryz.func192
theorem e07:FnS E (N0 p) 164 GF:=fnS [0,2,3,4,5,6,7,8,9,10,11,12,13] {} Tryz.func193
theorem e08:FnS E (N0 p) 165 Eg:=fnS [0,1,2,3,8,9,33,38] {} Tryz.func214
theorem e09:FnS E (N0 p) 166 IQ:=fnS [0,1,4] {} Tryz.func215
theorem e1a:FnS E (N0 p) 167 GG:=fnS [0,2,3,4,5] {} Tryz.func216
theorem e1b:FnS E (N0 p) 168 Pl:=fnS [0,1,2] {} Tryz.func217
theorem e1c:FnS E (N0 p) 169 IR:=fnS [0,1,4] {} Tryz.func206
theorem e1d:FnS E (N0 p) 170 Mc:=fnS [0,2] {} Tryz.func207
theorem e1e:FnS E (N0 p) 171 J3:=fnS [0,1,4] {} Tryz.func208
theorem e1f:FnS E (N0 p) 172 Md:=fnS [0,1,4,5,6] {} Tryz.func209
theorem e1g:FnS E (N0 p) 173 Pm:=fnS [0,1,4,5] {} Tryz.func210
theorem e1h:FnS E (N0 p) 174 Pn:=fnS [0,2,3,4,5,7,8] {} Tryz.func211
theorem e1i:FnS E (N0 p) 175 J4:=fnS [0,1,2] {} Tryz.func212
theorem e1j:FnS E (N0 p) 176 Po:=fnS [0,1,4,5] {} Tryz.func220
theorem e1k:FnS E (N0 p) 177 J6:=fnS [0,1,2] {} Tryz.func221
theorem e1l:FnS E (N0 p) 178 Pp:=fnS [0,1,2,4,5,6,7] {} Tryz.func222
theorem e1m:FnS E (N0 p) 179 Me:=fnS [0,1,4,5,6,7] {} Tryz.func218
theorem e1n:FnS E (N0 p) 180 Mf:=fnS [0,1,4,5] {} Tryz.func219
theorem e1o:FnS E (N0 p) 181 Mg:=fnS [0,1,4,5,6,7,8,9,10,11,12,13] {} Tryz.func223
theorem e1p:FnS E (N0 p) 182 J7:=fnS [0,1,4] {} Tryz.func224
theorem e1q:FnS E (N0 p) 184 TK:=fnS [0,2] {} Tryz.func227
theorem e1r:FnS E (N0 p) 185 TL:=fnS [0,1,4,5,6,7,8,9,10] {} Tryz.func228
theorem e1s:FnS E (N0 p) 186 TM:=fnS [0,2,3,4,5,6,7,8] {} Tryz.func230
theorem e1t:FnS E (N0 p) 189 Mi:=rdS [2,4] [2,4,15,6,7] {hs:=[2,4]} 0 #[15] rfl Tryz.func95 (by kernel_rfl) (by kernel_rfl) (by decide)
theorem e1u:FnS E (N0 p) 190 HW:=rdS [5,6,7,9] [5,6,7,9,13,10,15,16] {hs:=[5,6,7,9],hf:=[63,96,138],bf:=[63,138],rf:=[96]} 0 #[13] rfl Tryz.func98 (by kernel_rfl) (by kernel_rfl) (by decide)
theorem e1v:FnS E (N0 p) 191 Mj:=rdS [2] [2,15,3,4] {hs:=[2]} 0 #[15] rfl Tryz.func135 (by kernel_rfl) (by kernel_rfl) (by decide)
theorem e1w:FnS E (N0 p) 192 Hf:=rdS [2] [2,6,3,8,9] {hs:=[2]} 0 #[6] rfl Tryz.func172 (by kernel_rfl) (by kernel_rfl) (by decide)
theorem e1x:FnS E (N0 p) 193 Pq:=rdS [3] [3,6] {hs:=[3]} 0 #[6] rfl Tryz.func173 (by kernel_rfl) (by kernel_rfl) (by decide)
theorem e1y:FnS E (N0 p) 197 TN:=fnS [0,1,2,3,4,5,6,7,8,9,20,21,22] {} Tryz.func8
theorem e1z:FnS E (N0 p) 198 N3:=fnS [0,1,2,3,4,5,7,8,9,10] {hf:=[26],rs:=[43],zd:=[11,40]} Tryz.func10
theorem e1A:FnS E (N0 p) 199 IS:=fnS [0,1,2,4,5,6,7] {} Tryz.func11
theorem e1B:FnS E (N0 p) 200 J8:=fnS [0,1,2,4,5,6,7] {} Tryz.func13
theorem e1C:FnS E (N0 p) 201 Pt:=fnS [0,1,2] {} Tryz.func18
theorem e1D:FnS E (N0 p) 202 Pu:=fnS [0,1,4,5] {} Tryz.func15
theorem e1E:FnS E (N0 p) 204 J9:=fnS [0,1,2,3,4,5] {} Tryz.func20
theorem e1F:FnS E (N0 p) 205 TP:=fnS [0,1,2,3,4,6,7,9,10,12,14,36,37,38,51,52,53] {hs:=[9],hv:=[45,62],rs:=[36]} Tryz.func21
theorem e1G:FnS E (N0 p) 206 Pv:=fnS [0,1,4,5] {} Tryz.func16
theorem e1H:FnS E (N0 p) 207 TR:=fnS [0,1,2] {rs:=[43]} Tryz.func26
theorem e1I:FnS E (N0 p) 208 TU:=fnS [0,2] {} Tryz.func27
theorem e1J:FnS E (N0 p) 209 PL:=fnS [0,1,2,3,4,5,7,8,10,11,12,13,14,16,18,20,23,24,25,31,32,33,44,45,46,57,58,59,67,68,69,78,79,80,86,87,88] {hs:=[11],hf:=[49,53],hv:=[73,92],rs:=[33]} Tryz.func28
theorem e1K:FnS E (N0 p) 210 PQ:=fnS [0,1,4,5,6,7,9,11,12,13,14,15,16,18,28,29,30,34,35,36,49,50,51,52,81,82,83] {hs:=[7,12,49],hf:=[56,57,58],rs:=[36,108],pz:=[55]} Tryz.func29
theorem e1L:FnS E (N0 p) 211 PR:=fnS [0,1,4] {hf:=[70]} Tryz.func34
theorem e1M:FnS E (N0 p) 212 PS:=fnS [0,1,2] {} Tryz.func35
theorem e1N:FnS E (N0 p) 213 T0:=fnS [0,1,4,5,6,7,8,9,10,11,28,29,30,50,51] {hs:=[6,8,28],hf:=[71],rs:=[36,84],nl:=true,fr:=[20,22,24,26],pa:=[36],pz:=[55]} Tryz.func36
theorem e1O:FnS E (N0 p) 214 T1:=fnS [0,1] {hs:=[1]} Tryz.func37
theorem e1P:FnS E (N0 p) 215 T2:=fnS [0,1,2,3,4] {} Tryz.func45
theorem e1Q:FnS E (N0 p) 216 Kc:=fnS [0,1,2,3,5,6] {hs:=[2],rs:=[33]} Tryz.func47
theorem e1R:FnS E (N0 p) 217 PT:=fnS [0,1,2] {ox:=[(79,some 0)]} Tryz.func48
theorem e1S:FnS E (N0 p) 219 T4:=fnS [0,1,2,3,4] {} Tryz.func50
theorem e1T:FnS E (N0 p) 220 Kd:=fnS [0,2,3,4,5] {rs:=[33],kp:=true} Tryz.func53
theorem e1U:FnS E (N0 p) 221 PY:=fnS [0,1,2,3,6,7,9,17,18,19] {hv:=[23,29]} Tryz.func54
theorem e1V:FnS E (N0 p) 222 P1:=fnS [0,1,4,5,7,8,11,12,13,32,33] {hs:=[5],hf:=[86,87],rs:=[36,84]} Tryz.func55
theorem e1W:FnS E (N0 p) 223 P2:=fnS [0,1] {hf:=[88]} Tryz.func56
theorem e1X:FnS E (N0 p) 224 P3:=fnS [0,2] {} Tryz.func57
theorem e1Y:FnS E (N0 p) 225 P4:=fnS [0,2,3] {hf:=[89]} Tryz.func58
theorem e1Z:FnS E (N0 p) 226 P5:=fnS [0,1,2,6] {rs:=[108]} Tryz.func248
theorem e10:FnS E (N0 p) 227 P6:=fnS [0,2,3,4] {hs:=[0],rs:=[108]} Tryz.func249
theorem e11:FnS E (N0 p) 228 P7:=fnS [0,1] {hs:=[0],rs:=[108]} Tryz.func250
theorem e12:FnS E (N0 p) 229 P8:=fnS [0,1,2] {rs:=[108],sr:=true} Tryz.func251
theorem e13:FnS E (N0 p) 230 T7:=fnS [0,1,4,5,6,7,8] {hs:=[0,5],hf:=[103,104],rs:=[36,64,174]} Tryz.func71
theorem e14:FnS E (N0 p) 231 Ke:=fnS [0,1,2,4,6,7,8,24,25,26] {ox:=[(79,some 0),(1000000,none)]} Tryz.func79
theorem e15:FnS E (N0 p) 232 T8:=fnS [0,2,3,5,6,7,8] {} Tryz.func51
theorem e16:FnS E (N0 p) 233 T9:=fnS [0,1,4,5,6] {} Tryz.func52
theorem e17:FnS E (N0 p) 234 Qa:=fnS [0,1,3] {} Tryz.func83
theorem e18:FnS E (N0 p) 235 Qb:=fnS [0,1,4] {hf:=[129]} Tryz.func84
theorem e19:FnS E (N0 p) 236 Ua:=fnS [0,1,3] {hv:=[4]} Tryz.func85
theorem e2a:FnS E (N0 p) 237 Kf:=fnS [0,2,3,4,5] {rs:=[36],kp:=true} Tryz.func87
theorem e2b:FnS E (N0 p) 238 Qd:=fnS [0,1,4] {} Tryz.func88
theorem e2c:FnS E (N0 p) 239 Qe:=fnS [0,1,2,6,7,8,9,10] {} Tryz.func89
theorem e2d:FnS E (N0 p) 240 Ue:=fnS [0,1,4] {hs:=[0],rs:=[36,64],sr:=true} Tryz.func103
theorem e2e:FnS E (N0 p) 241 Uf:=fnS [0,1,4] {hs:=[0],rs:=[36,64]} Tryz.func104
theorem e2f:FnS E (N0 p) 242 IT:=fnS [0,1,2] {} Tryz.func117
theorem e2g:FnS E (N0 p) 243 Ug:=fnS [0,2] {} Tryz.func82
theorem e2h:FnS E (N0 p) 244 Qf:=fnS [0,1,4,5,7,8] {hv:=[11]} Tryz.func129
theorem e2i:FnS E (N0 p) 246 Qg:=fnS [0,1,2,4,5,6,7,8,9,10,11,12] {} Tryz.func4
theorem e2j:FnS E (N0 p) 248 IU:=fnS [0,1,2,4,5,6,7] {} Tryz.func12
theorem e2k:FnS E (N0 p) 249 Kg:=fnS [0,1,2,4,5,6,7] {} Tryz.func14
theorem e2l:FnS E (N0 p) 250 Kh:=fnS [0,1,2,3,4,5] {} Tryz.func22
theorem e2m:FnS E (N0 p) 251 Qi:=fnS [0,1,2,3,4,5,6,7] {} Tryz.func23
theorem e2n:FnS E (N0 p) 252 Ql:=fnS [0,1,4,5,6,7,8,9,10,11] {hs:=[7]} Tryz.func24
theorem e2o:FnS E (N0 p) 254 Qm:=fnS [0,1,2,3] {} Tryz.func39
theorem e2p:FnS E (N0 p) 255 Qo:=fnS [0,1,2,3,4,5,6,7,8,9] {ox:=[(75,none)]} Tryz.func40
theorem e2q:FnS E (N0 p) 256 Qp:=fnS [0,1,4,5] {} Tryz.func41
theorem e2r:FnS E (N0 p) 257 Qq:=fnS [0,1,4,5] {} Tryz.func42
theorem e2s:FnS E (N0 p) 258 Qr:=fnS [0,1,4,5,6] {hs:=[5]} Tryz.func43
theorem e2t:FnS E (N0 p) 260 Qs:=fnS [0,1,2] {ox:=[(115,some 2),(1000000,none)]} Tryz.func75
theorem e2u:FnS E (N0 p) 261 Ki:=fnS [0,1,2,3,6,7] {ox:=[(115,some 2),(1000000,none)]} Tryz.func115
theorem e2v:FnS E (N0 p) 262 Mm:=fnS [0,1,2] {} Tryz.func151
theorem d8Z(h39:G9 (N0 p) Tryz.prog 39 HO)(h183:G9 (N0 p) Tryz.prog 183 Mh)(h218:G9 (N0 p) Tryz.prog 218 (Ha 219))(h27:G8 (N0 p) Tryz.prog 27 (E4 1))(h48:G8 (N0 p) Tryz.prog 48 (E4 2)):∀k pf,LS k=some pf->FnS E (N0 p) k pf:=by have all:AllFn E (N0 p) 0 LSt:=⟨o8,o9,o11,o12,o21,o23,.inl ⟨rfl,rfl,by decide,.inr (.inr ⟨_,Tryz.f31,rfl,rfl,rfl,Tryz.func31,by decide,by kernel_rfl,h27⟩)⟩,o28,o29,o30,o31,o33,o34,.inl ⟨rfl,rfl,by decide,.inr (.inl ⟨_,Tryz.f86,rfl,rfl,Tryz.func86,by decide,by kernel_rfl,h39⟩)⟩,o41,.inl ⟨rfl,rfl,by decide,.inr (.inr ⟨_,Tryz.f59,rfl,rfl,rfl,Tryz.func59,by decide,by kernel_rfl,h48⟩)⟩,o49,o50,o51,o57,o58,o59,o60,o61,o62,o63,o64,o65,o66,o67,o68,o69,o70,o71,o72,o73,o74,o81,o85,o89,o90,o91,o92,o93,o94,o97,o98,o99,e0b,e0c,e0d,e0e,e0f,e0g,e0h,e0i,e0j,e0k,e0l,e0m,e0n,e0o,e0p,e0q,e0r,e0s,e0t,e0u,e0v,e0w,e0x,e0y,e0z,e0A,e0B,e0C,e0D,e0E,e0F,e0G,e0H,e0I,e0J,e0K,e0L,e0M,e0N,e0O,e0P,e0Q,e0R,e0S,e0T,e0U,e0V,e0W,e0X,e0Y,e0Z,e00,e01,e02,e03,e04,e05,e06,e07,e08,e09,e1a,e1b,e1c,e1d,e1e,e1f,e1g,e1h,e1i,e1j,e1k,e1l,e1m,e1n,e1o,e1p,.inl ⟨rfl,rfl,by decide,.inr (.inl ⟨_,Tryz.f225,rfl,rfl,Tryz.func225,by decide,by kernel_rfl,h183⟩)⟩,e1q,e1r,e1s,e1t,e1u,e1v,e1w,e1x,e1y,e1z,e1A,e1B,e1C,e1D,e1E,e1F,e1G,e1H,e1I,e1J,e1K,e1L,e1M,e1N,e1O,e1P,e1Q,e1R,.inl ⟨rfl,rfl,by decide,.inr (.inl ⟨_,Tryz.f49,rfl,rfl,Tryz.func49,by decide,by kernel_rfl,h218⟩)⟩,e1S,e1T,e1U,e1V,e1W,e1X,e1Y,e1Z,e10,e11,e12,e13,e14,e15,e16,e17,e18,e19,e2a,e2b,e2c,e2d,e2e,e2f,e2g,e2h,e2i,e2j,e2k,e2l,e2m,e2n,e2o,e2p,e2q,e2r,e2s,e2t,e2u,e2v,trivial⟩;intro k pf h;have:=all.get (k:=k) (f:=pf) h;rwa[bl]at this
end
end Go.Proofs.YtljbhgpanekomaaGreat.Pi
