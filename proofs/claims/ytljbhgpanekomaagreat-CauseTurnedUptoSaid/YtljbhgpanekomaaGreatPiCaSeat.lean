import Derived.Test.YtljbhgpanekomaaGreatChecked
import Derived.Test.YtljbhgpanekomaaGreatPiLaw
import Derived.Test.YtljbhgpanekomaaGreatPiLaw
import Derived.Test.YtljbhgpanekomaaGreatPiCaCode
import Derived.KernelRfl
set_option maxRecDepth 100000
set_option linter.unusedSectionVars false
namespace Go.Proofs.YtljbhgpanekomaaGreat.Pi
open Go PI PI.Sc
def tab:List Nat:=[1000000,1000000,1000000,1000000,1000000,1000000,1000000,1000000,17,1000000,1000000,46,1000000,1000000,1000000,1000000,1000000,1000000,1000000,1000000,1000000,1000000,1000000,30,1000000,1000000,1000000,31,32,33,1000000,1000000,1000000,77,78,1000000,1000000,1000000,1000000,86,1000000,1000000,1000000,1000000,1000000,1000000,1000000,1000000,59,60,61,62,1000000,1000000,1000000,1000000,1000000,63,64,65,66,67,68,69,1000000,1000000,1000000,1000000,1000000,1000000,1000000,1000000,1000000,1000000,116,1000000,1000000,1000000,1000000,1000000,1000000,136,1000000,1000000,1000000,1000000,1000000,1000000,1000000,90,91,92,93,94,95,1000000,1000000,96,97,98,99,100,101,102,1000000,1000000,1000000,1000000,1000000,1000000,118,1000000,1000000,1000000,176,70,1000000,1000000,131,132,133,134,135,137,138,139,140,141,142,143,144,1000000,1000000,1000000,1000000,1000000,1000000,1000000,1000000,152,1000000,177,167,168,169,170,171,172,173,174,175,178,1000000,1000000,1000000,1000000,1000000,1000000,1000000,1000000,1000000,1000000,191,192,193,1000000,1000000,1000000,1000000,206,207,208,209,210,211,212,1000000,1000000,1000000,218,219,223,224,225,227,228,230,1000000,1000000,1000000,1000000,1000000,1000000,1000000,5,6,7,8,10,11,13,18,15,19,20,21,16,26,27,28,29,34,35,36,37,45,47,48,49,50,53,54,55,56,57,58,248,249,250,251,71,79,51,52,83,84,85,87,88,89,103,104,117,82,129]
def Nq:List Nat:=[0,0,0,0,0,0,0,0,17,0,0,46,0,0,0,0,0,0,0,0,0,0,0,30,0,0,0,31,32,33,0,0,0,77,78,0,0,0,0,86,0,0,0,0,0,0,0,0,59,60,61,62,0,0,0,0,0,63,64,65,66,67,68,69,0,0,0,0,0,0,0,0,0,0,116,0,0,0,0,0,0,136,0,0,0,0,0,0,0,90,91,92,93,94,95,0,0,96,97,98,99,100,101,102,0,0,0,0,0,0,118,0,0,0,176,70,0,0,131,132,133,134,135,137,138,139,140,141,142,143,144,0,0,0,0,0,0,0,0,152,0,177,167,168,169,170,171,172,173,174,175,178,0,0,0,0,0,0,0,0,0,0,191,192,193,0,0,0,0,206,207,208,209,210,211,212,0,0,0,218,219,223,224,225,227,228,230,0,0,95,98,135,172,173,5,6,7,8,10,11,13,18,15,19,20,21,16,26,27,28,29,34,35,36,37,45,47,48,49,50,53,54,55,56,57,58,248,249,250,251,71,79,51,52,83,84,85,87,88,89,103,104,117,82,129]
noncomputable def yl:Nat→Option YL
 | 189=>yOf Tryz.f95 95 0 [2,4]
 | 190=>yOf Tryz.f98 98 0 [5,6,7,9]
 | 191=>yOf Tryz.f135 135 0 [2]
 | 192=>yOf Tryz.f172 172 0 [2]
 | 193=>yOf Tryz.f173 173 0 [3]
 | _=>none
noncomputable def E:Env:={ P:=Tryz.prog,inv:=λf=>if f<1000000 then zG f tab 0 else none,tinv:=λ_=>none,bT:=none,pt:=[70,113,3,107] }
structure Ps where
 tabs:List (Nat×Nat×Value)
 rows:List (Nat×TypeId×Nat)
 errT:Nat
noncomputable def N0 (p:Ps):Nm:={ fn:=λk=>Nq.getD k 0,ty:=λt=>if t=0 then p.errT else([70,113,3,107]:List Nat).getD (t - 1) 0,tabs:=p.tabs,rows:=p.rows,bT:=0,bE:=5,yl:=yl }
theorem d5s:(List.range 245).all (λk=>decide (1000000≤tab.getD k 0)||tab.getD k 0==Nq.getD k 0)=true:=by kernel_rfl
theorem d5t:(List.range 245).all (λk=>decide (1000000≤tab.getD k 0) || !([189,190,191,192,193]:List Nat).contains k)=true:=by kernel_rfl
theorem RS {f k:Nat} (h:E.inv f=some k):f<1000000∧tab[k]? = some f:=by
 have h:(if f<1000000 then zG f tab 0 else none)=some k:=h
 split at h
 ·obtain⟨_,h2⟩:=Ep h
  exact⟨by assumption,by simpa using h2⟩
 ·simp at h
theorem Lf (p:Ps):EnvOk E (N0 p):=⟨λf k h=>by
 obtain⟨h5,h2⟩:=RS h
 have hk:k<245:=(ah.1 h2).1
 have h3:=aJ.1 d5s k (by simpa using hk)
 have h4:tab.getD k 0=f:=by rw[cO,h2]; rfl
 rw[h4] at h3
 show Nq.getD k 0=f
 simp only[bM,av,br] at h3
 rcases h3 with h3|h3
 ·omega
 ·exact h3.symm,λf k h=>by
 obtain⟨h5,h2⟩:=RS h
 have hk:k<245:=(ah.1 h2).1
 have h3:=aJ.1 d5t k (by simpa using hk)
 have h4:tab.getD k 0=f:=by rw[cO,h2]; rfl
 rw[h4] at h3
 simp only[bM,av,bD,List.contains_eq_mem,cm] at h3
 rcases h3 with h3|h3
 ·omega
 ·show yl k=none
  unfold yl
  split<;>first | rfl | (exfalso; apply h3; decide),λT i h=>by
 obtain⟨_,h2⟩:=Ep (show zG T [70,113,3,107] 0=some i from h)
 show (if i+1=0 then p.errT else([70,113,3,107]:List Nat).getD (i+1 - 1) 0)=T
 rw[ae (by omega),cO,show ([70,113,3,107]:List Nat)[i+1 - 1]? = some T by simpa using h2]; rfl,λt h=>by
 simp[E] at h⟩
theorem mixed:Tryz.prog.follows .mixedOrders=true:=by kernel_rfl
section
variable {p:Ps}
theorem o8:FnS E (N0 p) 8 IX:=fnS [0,1,2,3,4,5,6,7,8,10,11,26,28,29,30,42,43,44,57,58] { hs:=[2,3,6,26],hf:=[32,33],bf:=[32,33] } Tryz.func17 (by kernel_rfl) (by decide)
theorem o11:FnS E (N0 p) 11 I0:=fnS [0,1,2,3,4,5,14,15,16] { hf:=[77],rs:=[42] } Tryz.func46 (by kernel_rfl) (by decide)
theorem o23:FnS E (N0 p) 23 Li:=fnS [0,1,2,3,4,6,7,8,14,28,29,30,39,40,41] { hs:=[2,3,4,14],hf:=[60,61,62],bf:=[60,61,62] } Tryz.func30 (by kernel_rfl) (by decide)
theorem o28:FnS E (N0 p) 28 I1:=fnS [0,1,2,4,7] { hs:=[0],hf:=[63],bf:=[63] } Tryz.func32 (by kernel_rfl) (by decide)
theorem o29:FnS E (N0 p) 29 FS:=fnS [0,1,4,5,7,8,9,11,13,49,50,51,63,64,65,86,87,88,121,122,123] { hs:=[0,4,5],hf:=[32,63,64,65,66,67,68,69],bf:=[32,63,65,66,67,68,69] } Tryz.func33 (by kernel_rfl) (by decide)
theorem o33:FnS E (N0 p) 33 Pp:=fnS [0,2,3,5,6,8,9,10,11,25,26,27] { hf:=[116],rs:=[42],nl:=true,kp:=true } Tryz.func77 (by kernel_rfl) (by decide)
theorem o34:FnS E (N0 p) 34 I2:=fnS [0,2] {  } Tryz.func78 (by kernel_rfl) (by decide)
theorem o49:FnS E (N0 p) 49 I3:=fnS [0,1,2] { hs:=[0] } Tryz.func60 (by kernel_rfl) (by decide)
theorem o50:FnS E (N0 p) 50 FV:=fnS [0,1,3,5,23,24,25] { hs:=[0],hf:=[60,90],bf:=[60,90] } Tryz.func61 (by kernel_rfl) (by decide)
theorem o51:FnS E (N0 p) 51 Lk:=fnS [0,1,2,5,6,7,9,11,13,80,81,82,101,102,103,112,113,114,128,129,130] { hs:=[0],hf:=[60,90,91,92,93,94],bf:=[60,90,91,92,93,94] } Tryz.func62 (by kernel_rfl) (by decide)
theorem o57:FnS E (N0 p) 57 I4:=fnS [0,1,2] { hs:=[0] } Tryz.func63 (by kernel_rfl) (by decide)
theorem o58:FnS E (N0 p) 58 GR:=fnS [0,2,7] { hs:=[0,2,7] } Tryz.func64 (by kernel_rfl) (by decide)
theorem o59:FnS E (N0 p) 59 I5:=fnS [0,1,2,7,9,10,11,12] { hs:=[0,1],hf:=[63,96],bf:=[63] } Tryz.func65 (by kernel_rfl) (by decide)
theorem o60:FnS E (N0 p) 60 I6:=fnS [0,1,2,7,9,10,11,12,17,18,19] { hs:=[0,1],hf:=[63,96],bf:=[63] } Tryz.func66 (by kernel_rfl) (by decide)
theorem o61:FnS E (N0 p) 61 FW:=fnS [0,1,2,3,7,9,11,12,13] { hs:=[0,2],hf:=[63,96,97,98],rs:=[50],bf:=[63,98] } Tryz.func67 (by kernel_rfl) (by decide)
theorem o62:FnS E (N0 p) 62 Lr:=fnS [0,1,2,3,7,8,9,10,11,12,13,14,16,18,19,20,36,37,38,61,62,63] { hs:=[0,2],hf:=[63,101],rs:=[50],bf:=[63,101] } Tryz.func68 (by kernel_rfl) (by decide)
theorem o63:FnS E (N0 p) 63 FR:=fnS [0,1,2,3,8,10,12,15,16,17,28,29,30] { hs:=[0,8],hf:=[64,77,98],rs:=[42],bf:=[98] } Tryz.func69 (by kernel_rfl) (by decide)
theorem o74:FnS E (N0 p) 74 Pv:=fnS [0,1,4] { rs:=[42],kp:=true } Tryz.func116 (by kernel_rfl) (by decide)
theorem o81:FnS E (N0 p) 81 Ls:=fnS [0,1,2] {  } Tryz.func136 (by kernel_rfl) (by decide)
theorem o89:FnS E (N0 p) 89 Lt:=fnS [0,1] { hs:=[0],hf:=[60],bf:=[60] } Tryz.func90 (by kernel_rfl) (by decide)
theorem o90:FnS E (N0 p) 90 Lu:=fnS [0,1,2,7,9,10,11,12,47,48,49] { hs:=[0],hf:=[60,90],bf:=[60,90] } Tryz.func91 (by kernel_rfl) (by decide)
theorem o91:FnS E (N0 p) 91 G8:=fnS [0,1,3,5,19,20,21] { hs:=[0],hf:=[60,90,94],bf:=[60,90,94] } Tryz.func92 (by kernel_rfl) (by decide)
theorem o92:FnS E (N0 p) 92 FX:=fnS [0,1,2,4,7,9,11,29,30,31,72,73,74,83,84,85] { hs:=[0],hf:=[60,90,91,92,93,134],bf:=[60,90,91,92,93,134] } Tryz.func93 (by kernel_rfl) (by decide)
theorem o93:FnS E (N0 p) 93 I7:=fnS [0,1] { hs:=[0],hf:=[60],bf:=[60] } Tryz.func94 (by kernel_rfl) (by decide)
theorem o94:FnS E (N0 p) 94 I8:=Ic [0,1,2,3,4,5,14] { hs:=[2,4],hf:=[136],lps:=[(#[15],189,[2,4])] } [#[15]] Tryz.func95 (by kernel_rfl) (by decide) (by decide) ⟨⟨0,rfl,rfl⟩,trivial⟩
theorem o97:FnS E (N0 p) 97 FY:=fnS [0,1,4] { hs:=[0] } Tryz.func96 (by kernel_rfl) (by decide)
theorem o98:FnS E (N0 p) 98 Fk:=fnS [0,1,4] { hs:=[0] } Tryz.func97 (by kernel_rfl) (by decide)
theorem o99:FnS E (N0 p) 99 Hb:=Ic [0,1,2,3,4,5,6,7,8,9,12] { hs:=[0,2,5,6,7,9],hf:=[136],lps:=[(#[13],190,[5,6,7,9])] } [#[13]] Tryz.func98 (by kernel_rfl) (by decide) (by decide) ⟨⟨0,rfl,rfl⟩,trivial⟩
theorem d6E:FnS E (N0 p) 100 Lv:=fnS [0,1,4] { hf:=[139] } Tryz.func99 (by kernel_rfl) (by decide)
theorem d6F:FnS E (N0 p) 101 Lw:=fnS [0,1,2,3] {  } Tryz.func100 (by kernel_rfl) (by decide)
theorem d6G:FnS E (N0 p) 102 LB:=fnS [0,1,2,3,7,8,9,11,13,15,17,21,22,23,39,40,41,52,53,54,77,78,79] { hs:=[0,2],hf:=[63,64,65,66,67,68,140,141],bf:=[63,65,66,67,68,140] } Tryz.func101 (by kernel_rfl) (by decide)
theorem d6H:FnS E (N0 p) 103 I9:=fnS [0,1,3,4] {  } Tryz.func102 (by kernel_rfl) (by decide)
theorem d6I:FnS E (N0 p) 110 LC:=fnS [0,1,4] { hf:=[152],rs:=[50] } Tryz.func118 (by kernel_rfl) (by decide)
theorem d6J:FnS E (N0 p) 114 Ja:=fnS [0,1] { hf:=[177],bf:=[177] } Tryz.func176 (by kernel_rfl) (by decide)
theorem d6K:FnS E (N0 p) 115 Jb:=fnS [0,1,4,5,7,8] { hv:=[11] } Tryz.func70 (by kernel_rfl) (by decide)
theorem d6L:FnS E (N0 p) 118 Fl:=fnS [0,2,3,22,23] {  } Tryz.func131 (by kernel_rfl) (by decide)
theorem d6M:FnS E (N0 p) 119 Hc:=fnS [0,1,4,5,7] {  } Tryz.func132 (by kernel_rfl) (by decide)
theorem d6N:FnS E (N0 p) 120 Hd:=fnS [0,1,2,6] {  } Tryz.func133 (by kernel_rfl) (by decide)
theorem d6O:FnS E (N0 p) 121 LD:=fnS [0,1,2,3,9,10,11,12] { hs:=[0],hf:=[60,94],bf:=[60,94] } Tryz.func134 (by kernel_rfl) (by decide)
theorem d6P:FnS E (N0 p) 122 He:=Ic [0,1,2,14] { hs:=[2],hf:=[136],lps:=[(#[15],191,[2])] } [#[15]] Tryz.func135 (by kernel_rfl) (by decide) (by decide) ⟨⟨0,rfl,rfl⟩,trivial⟩
theorem d6Q:FnS E (N0 p) 123 DJ:=fnS [0,1,3,4,5,11,12] {  } Tryz.func137 (by kernel_rfl) (by decide)
theorem d6R:FnS E (N0 p) 124 Fm:=fnS [0,1,2,3,6,8,9] { hs:=[0],hf:=[63],bf:=[63] } Tryz.func138 (by kernel_rfl) (by decide)
theorem d6S:FnS E (N0 p) 125 Jc:=fnS [0,1,4,5,7,8] { hv:=[11] } Tryz.func139 (by kernel_rfl) (by decide)
theorem d6T:FnS E (N0 p) 126 Jd:=fnS [0,1,2,3,9,10,11,12] { hs:=[0,2],hf:=[98],bf:=[98] } Tryz.func140 (by kernel_rfl) (by decide)
theorem d6U:FnS E (N0 p) 127 Hf:=fnS [0,1,4,5,6,7] { hf:=[178],hv:=[26],rs:=[50],kp:=true } Tryz.func141 (by kernel_rfl) (by decide)
theorem d6V:FnS E (N0 p) 128 Je:=fnS [0,1,3] {  } Tryz.func142 (by kernel_rfl) (by decide)
theorem d6W:FnS E (N0 p) 129 LE:=fnS [0,1,4] { hf:=[178] } Tryz.func143 (by kernel_rfl) (by decide)
theorem d6X:FnS E (N0 p) 130 LF:=fnS [0,1,3] {  } Tryz.func144 (by kernel_rfl) (by decide)
theorem d6Y:FnS E (N0 p) 139 Jf:=fnS [0,1,4,5,7,8] { rs:=[50] } Tryz.func152 (by kernel_rfl) (by decide)
theorem d6Z:FnS E (N0 p) 141 DK:=fnS [0,1,2,4,6,12,13,14] { hf:=[177],hv:=[7],bf:=[177],bv:=[7] } Tryz.func177 (by kernel_rfl) (by decide)
theorem d60:FnS E (N0 p) 142 LG:=fnS [0,2] {  } Tryz.func167 (by kernel_rfl) (by decide)
theorem d61:FnS E (N0 p) 143 LH:=fnS [0,2,3,4] {  } Tryz.func168 (by kernel_rfl) (by decide)
theorem d62:FnS E (N0 p) 144 Jg:=fnS [0,2] {  } Tryz.func169 (by kernel_rfl) (by decide)
theorem d63:FnS E (N0 p) 145 Hh:=fnS [0,1,4,5] {  } Tryz.func170 (by kernel_rfl) (by decide)
theorem d64:FnS E (N0 p) 146 LI:=fnS [0,2] {  } Tryz.func171 (by kernel_rfl) (by decide)
theorem d65:FnS E (N0 p) 147 LJ:=Ic [0,1,2,5] { hs:=[2],hf:=[136],lps:=[(#[6],192,[2])] } [#[6]] Tryz.func172 (by kernel_rfl) (by decide) (by decide) ⟨⟨0,rfl,rfl⟩,trivial⟩
theorem d66:FnS E (N0 p) 148 LK:=Ic [0,1,2,3,5] { hs:=[3],hf:=[136],lps:=[(#[6],193,[3])] } [#[6]] Tryz.func173 (by kernel_rfl) (by decide) (by decide) ⟨⟨0,rfl,rfl⟩,trivial⟩
theorem d67:FnS E (N0 p) 149 LL:=fnS [0,1,2,3,5,7,8,9] {  } Tryz.func174 (by kernel_rfl) (by decide)
theorem d68:FnS E (N0 p) 150 BQ:=fnS [0,1,2,3,4,5] {  } Tryz.func175 (by kernel_rfl) (by decide)
theorem d69:FnS E (N0 p) 151 F0:=fnS [0,1,4,5,7,8] { hv:=[11],rs:=[50] } Tryz.func178 (by kernel_rfl) (by decide)
theorem d7a:FnS E (N0 p) 162 LN:=fnS [0,2] {  } Tryz.func191 (by kernel_rfl) (by decide)
theorem d7b:FnS E (N0 p) 163 AN:=fnS [0,1,2,3,4,5,18,77] {  } Tryz.func192 (by kernel_rfl) (by decide)
theorem d7c:FnS E (N0 p) 164 Ef:=fnS [0,2,3,4,5,6,7,8,9,10,11,12,13] {  } Tryz.func193 (by kernel_rfl) (by decide)
theorem d7d:FnS E (N0 p) 169 F1:=fnS [0,1,4] {  } Tryz.func206 (by kernel_rfl) (by decide)
theorem d7e:FnS E (N0 p) 170 Jh:=fnS [0,2] {  } Tryz.func207 (by kernel_rfl) (by decide)
theorem d7f:FnS E (N0 p) 171 Hi:=fnS [0,1,4] {  } Tryz.func208 (by kernel_rfl) (by decide)
theorem d7g:FnS E (N0 p) 172 Ji:=fnS [0,1,4,5,6] {  } Tryz.func209 (by kernel_rfl) (by decide)
theorem d7h:FnS E (N0 p) 173 LO:=fnS [0,1,4,5] {  } Tryz.func210 (by kernel_rfl) (by decide)
theorem d7i:FnS E (N0 p) 174 LP:=fnS [0,2,3,4,5,7,8] {  } Tryz.func211 (by kernel_rfl) (by decide)
theorem d7j:FnS E (N0 p) 175 Hj:=fnS [0,1,2] {  } Tryz.func212 (by kernel_rfl) (by decide)
theorem d7k:FnS E (N0 p) 179 Jj:=fnS [0,1,4,5,6,7] {  } Tryz.func218 (by kernel_rfl) (by decide)
theorem d7l:FnS E (N0 p) 180 Jk:=fnS [0,1,4,5] {  } Tryz.func219 (by kernel_rfl) (by decide)
theorem d7m:FnS E (N0 p) 181 Jl:=fnS [0,1,4,5,6,7,8,9,10,11,12,13] {  } Tryz.func223 (by kernel_rfl) (by decide)
theorem d7n:FnS E (N0 p) 182 Hk:=fnS [0,1,4] {  } Tryz.func224 (by kernel_rfl) (by decide)
theorem d7o:FnS E (N0 p) 184 PB:=fnS [0,2] {  } Tryz.func227 (by kernel_rfl) (by decide)
theorem d7p:FnS E (N0 p) 185 PE:=fnS [0,1,4,5,6,7,8,9,10] {  } Tryz.func228 (by kernel_rfl) (by decide)
theorem d7q:FnS E (N0 p) 186 PG:=fnS [0,2,3,4,5,6,7,8] {  } Tryz.func230 (by kernel_rfl) (by decide)
theorem d7r:FnS E (N0 p) 189 Jn:=rdS [2,4] [2,4,15,6,7] { hs:=[2,4] } 0 #[15] rfl Tryz.func95 (by kernel_rfl) (by kernel_rfl) (by decide)
theorem d7s:FnS E (N0 p) 190 Fo:=rdS [5,6,7,9] [5,6,7,9,13,10,15,16] { hs:=[5,6,7,9],hf:=[63,96,138],bf:=[63,138],rf:=[96] } 0 #[13] rfl Tryz.func98 (by kernel_rfl) (by kernel_rfl) (by decide)
theorem d7t:FnS E (N0 p) 191 Jo:=rdS [2] [2,15,3,4] { hs:=[2] } 0 #[15] rfl Tryz.func135 (by kernel_rfl) (by kernel_rfl) (by decide)
theorem d7u:FnS E (N0 p) 192 EL:=rdS [2] [2,6,3,8,9] { hs:=[2] } 0 #[6] rfl Tryz.func172 (by kernel_rfl) (by kernel_rfl) (by decide)
theorem d7v:FnS E (N0 p) 193 LQ:=rdS [3] [3,6] { hs:=[3] } 0 #[6] rfl Tryz.func173 (by kernel_rfl) (by kernel_rfl) (by decide)
theorem d7w:FnS E (N0 p) 196 LT:=fnS [0,1,2,3,4,5,6,7,8,9,10,11] {  } Tryz.func7 (by kernel_rfl) (by decide)
theorem d7x:FnS E (N0 p) 197 Jq:=fnS [0,1,2,3,4,5,6,7,8,9,20,21,22] {  } Tryz.func8 (by kernel_rfl) (by decide)
theorem d7y:FnS E (N0 p) 198 KS:=fnS [0,1,2,3,4,5,7,8,9,10] { hf:=[26],rs:=[43],zd:=[11,40] } Tryz.func10 (by kernel_rfl) (by decide)
theorem d7z:FnS E (N0 p) 199 PJ:=fnS [0,1,2,4,5,6,7] {  } Tryz.func11 (by kernel_rfl) (by decide)
theorem d7A:FnS E (N0 p) 200 PK:=fnS [0,1,2,4,5,6,7] {  } Tryz.func13 (by kernel_rfl) (by decide)
theorem d7B:FnS E (N0 p) 201 LU:=fnS [0,1,2] {  } Tryz.func18 (by kernel_rfl) (by decide)
theorem d7C:FnS E (N0 p) 202 PL:=fnS [0,1,4,5] {  } Tryz.func15 (by kernel_rfl) (by decide)
theorem d7D:FnS E (N0 p) 204 Hl:=fnS [0,1,2,3,4,5] {  } Tryz.func20 (by kernel_rfl) (by decide)
theorem d7E:FnS E (N0 p) 205 Jr:=fnS [0,1,2,3,4,6,7,9,10,12,14,36,37,38,51,52,53] { hs:=[9],hv:=[45,62],rs:=[36] } Tryz.func21 (by kernel_rfl) (by decide)
theorem d7F:FnS E (N0 p) 206 PM:=fnS [0,1,4,5] {  } Tryz.func16 (by kernel_rfl) (by decide)
theorem d7G:FnS E (N0 p) 207 PN:=fnS [0,1,2] { rs:=[43] } Tryz.func26 (by kernel_rfl) (by decide)
theorem d7H:FnS E (N0 p) 208 PP:=fnS [0,2] {  } Tryz.func27 (by kernel_rfl) (by decide)
theorem d7I:FnS E (N0 p) 209 L9:=fnS [0,1,2,3,4,5,7,8,10,11,12,13,14,16,18,20,23,24,25,31,32,33,44,45,46,57,58,59,67,68,69,78,79,80,86,87,88] { hs:=[11],hf:=[49,53],hv:=[73,92],rs:=[33] } Tryz.func28 (by kernel_rfl) (by decide)
theorem d7J:FnS E (N0 p) 210 Mf:=fnS [0,1,4,5,6,7,9,11,12,13,14,15,16,18,28,29,30,34,35,36,49,50,51,52,81,82,83] { hs:=[7,12,49],hf:=[56,57,58],rs:=[36,108],pz:=[55] } Tryz.func29 (by kernel_rfl) (by decide)
theorem d7K:FnS E (N0 p) 211 Mg:=fnS [0,1,4] { hf:=[70] } Tryz.func34 (by kernel_rfl) (by decide)
theorem d7L:FnS E (N0 p) 212 Mh:=fnS [0,1,2] {  } Tryz.func35 (by kernel_rfl) (by decide)
theorem d7M:FnS E (N0 p) 213 Mk:=fnS [0,1,4,5,6,7,8,9,10,11,28,29,30,50,51] { hs:=[6,8,28],hf:=[71],rs:=[36,84],nl:=true,fr:=[20,22,24,26],pa:=[36],pz:=[55] } Tryz.func36 (by kernel_rfl) (by decide)
theorem d7N:FnS E (N0 p) 214 Ho:=fnS [0,1] { hs:=[1] } Tryz.func37 (by kernel_rfl) (by decide)
theorem d7O:FnS E (N0 p) 215 PT:=fnS [0,1,2,3,4] {  } Tryz.func45 (by kernel_rfl) (by decide)
theorem d7P:FnS E (N0 p) 216 Hp:=fnS [0,1,2,3,5,6] { hs:=[2],rs:=[33] } Tryz.func47 (by kernel_rfl) (by decide)
theorem d7Q:FnS E (N0 p) 217 Ml:=fnS [0,1,2] { ox:=[(79,some 0)] } Tryz.func48 (by kernel_rfl) (by decide)
theorem d7R:FnS E (N0 p) 219 PY:=fnS [0,1,2,3,4] {  } Tryz.func50 (by kernel_rfl) (by decide)
theorem d7S:FnS E (N0 p) 220 Hq:=fnS [0,2,3,4,5] { rs:=[33],kp:=true } Tryz.func53 (by kernel_rfl) (by decide)
theorem d7T:FnS E (N0 p) 221 Mn:=fnS [0,1,2,3,6,7,9,17,18,19] { hv:=[23,29] } Tryz.func54 (by kernel_rfl) (by decide)
theorem d7U:FnS E (N0 p) 222 Mq:=fnS [0,1,4,5,7,8,11,12,13,32,33] { hs:=[5],hf:=[86,87],rs:=[36,84] } Tryz.func55 (by kernel_rfl) (by decide)
theorem d7V:FnS E (N0 p) 223 Mr:=fnS [0,1] { hf:=[88] } Tryz.func56 (by kernel_rfl) (by decide)
theorem d7W:FnS E (N0 p) 224 Ms:=fnS [0,2] {  } Tryz.func57 (by kernel_rfl) (by decide)
theorem d7X:FnS E (N0 p) 225 Mt:=fnS [0,2,3] { hf:=[89] } Tryz.func58 (by kernel_rfl) (by decide)
theorem d7Y:FnS E (N0 p) 226 Mu:=fnS [0,1,2,6] { rs:=[108] } Tryz.func248 (by kernel_rfl) (by decide)
theorem d7Z:FnS E (N0 p) 227 Mv:=fnS [0,2,3,4] { hs:=[0],rs:=[108] } Tryz.func249 (by kernel_rfl) (by decide)
theorem d70:FnS E (N0 p) 228 Mw:=fnS [0,1] { hs:=[0],rs:=[108] } Tryz.func250 (by kernel_rfl) (by decide)
theorem d71:FnS E (N0 p) 229 Mx:=fnS [0,1,2] { rs:=[108],sr:=true } Tryz.func251 (by kernel_rfl) (by decide)
theorem d72:FnS E (N0 p) 230 Mz:=fnS [0,1,4,5,6,7,8] { hs:=[0,5],hf:=[103,104],rs:=[36,64,174] } Tryz.func71 (by kernel_rfl) (by decide)
theorem d73:FnS E (N0 p) 231 Hr:=fnS [0,1,2,4,6,7,8,24,25,26] { ox:=[(79,some 0),(1000000,none)] } Tryz.func79 (by kernel_rfl) (by decide)
theorem d74:FnS E (N0 p) 232 P1:=fnS [0,2,3,5,6,7,8] {  } Tryz.func51 (by kernel_rfl) (by decide)
theorem d75:FnS E (N0 p) 233 P2:=fnS [0,1,4,5,6] {  } Tryz.func52 (by kernel_rfl) (by decide)
theorem d76:FnS E (N0 p) 234 MB:=fnS [0,1,3] {  } Tryz.func83 (by kernel_rfl) (by decide)
theorem d77:FnS E (N0 p) 235 MC:=fnS [0,1,4] { hf:=[129] } Tryz.func84 (by kernel_rfl) (by decide)
theorem d78:FnS E (N0 p) 236 P3:=fnS [0,1,3] { hv:=[4] } Tryz.func85 (by kernel_rfl) (by decide)
theorem d79:FnS E (N0 p) 237 Hs:=fnS [0,2,3,4,5] { rs:=[36],kp:=true } Tryz.func87 (by kernel_rfl) (by decide)
theorem d8a:FnS E (N0 p) 238 ME:=fnS [0,1,4] {  } Tryz.func88 (by kernel_rfl) (by decide)
theorem d8b:FnS E (N0 p) 239 MF:=fnS [0,1,2,6,7,8,9,10] {  } Tryz.func89 (by kernel_rfl) (by decide)
theorem d8c:FnS E (N0 p) 240 Ju:=fnS [0,1,4] { hs:=[0],rs:=[36,64],sr:=true } Tryz.func103 (by kernel_rfl) (by decide)
theorem d8d:FnS E (N0 p) 241 Jv:=fnS [0,1,4] { hs:=[0],rs:=[36,64] } Tryz.func104 (by kernel_rfl) (by decide)
theorem d8e:FnS E (N0 p) 242 F3:=fnS [0,1,2] {  } Tryz.func117 (by kernel_rfl) (by decide)
theorem d8f:FnS E (N0 p) 243 P8:=fnS [0,2] {  } Tryz.func82 (by kernel_rfl) (by decide)
theorem d8g:FnS E (N0 p) 244 MG:=fnS [0,1,4,5,7,8] { hv:=[11] } Tryz.func129 (by kernel_rfl) (by decide)
theorem d5u (h39:EG (N0 p) Tryz.prog 39 Fj) (h183:EG (N0 p) Tryz.prog 183 Jm) (h218:EG (N0 p) Tryz.prog 218 (EI 219)) (h27:EF (N0 p) Tryz.prog 27 (CL 1)) (h48:EF (N0 p) Tryz.prog 48 (CL 2)):∀k pf,LS k=some pf→FnS E (N0 p) k pf:=by
 have all:AllFn E (N0 p) 0 LSt:=⟨o8,o11,o23,.inl ⟨rfl,rfl,by decide,.inr (.inr ⟨_,Tryz.f31,rfl,rfl,rfl,Tryz.func31,by decide,by kernel_rfl,h27⟩)⟩,o28,o29,o33,o34,.inl ⟨rfl,rfl,by decide,.inr (.inl ⟨_,Tryz.f86,rfl,rfl,Tryz.func86,by decide,by kernel_rfl,h39⟩)⟩,.inl ⟨rfl,rfl,by decide,.inr (.inr ⟨_,Tryz.f59,rfl,rfl,rfl,Tryz.func59,by decide,by kernel_rfl,h48⟩)⟩,o49,o50,o51,o57,o58,o59,o60,o61,o62,o63,o74,o81,o89,o90,o91,o92,o93,o94,o97,o98,o99,d6E,d6F,d6G,d6H,d6I,d6J,d6K,d6L,d6M,d6N,d6O,d6P,d6Q,d6R,d6S,d6T,d6U,d6V,d6W,d6X,d6Y,d6Z,d60,d61,d62,d63,d64,d65,d66,d67,d68,d69,d7a,d7b,d7c,d7d,d7e,d7f,d7g,d7h,d7i,d7j,d7k,d7l,d7m,d7n,.inl ⟨rfl,rfl,by decide,.inr (.inl ⟨_,Tryz.f225,rfl,rfl,Tryz.func225,by decide,by kernel_rfl,h183⟩)⟩,d7o,d7p,d7q,d7r,d7s,d7t,d7u,d7v,d7w,d7x,d7y,d7z,d7A,d7B,d7C,d7D,d7E,d7F,d7G,d7H,d7I,d7J,d7K,d7L,d7M,d7N,d7O,d7P,d7Q,.inl ⟨rfl,rfl,by decide,.inr (.inl ⟨_,Tryz.f49,rfl,rfl,Tryz.func49,by decide,by kernel_rfl,h218⟩)⟩,d7R,d7S,d7T,d7U,d7V,d7W,d7X,d7Y,d7Z,d70,d71,d72,d73,d74,d75,d76,d77,d78,d79,d8a,d8b,d8c,d8d,d8e,d8f,d8g,trivial⟩
 intro k pf h
 have:=all.get (k:=k) (f:=pf) h
 rwa [aS] at this
end
end Go.Proofs.YtljbhgpanekomaaGreat.Pi
