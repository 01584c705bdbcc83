import Derived.Test.YtljbhgpanekomaaGreatDoorChecked
import Derived.Test.YtljbhgpanekomaaGreatDoorPiLaw2
import Derived.Test.YtljbhgpanekomaaGreatDoorPiStand
import Derived.Test.YtljbhgpanekomaaGreatDoorPiScCode
import Derived.KernelRfl
set_option maxRecDepth 100000
set_option linter.unusedSectionVars false
namespace Go.Proofs.YtljbhgpanekomaaGreatDoor.Pi
open Go PI PI.Sc
def tab:List Nat:=[3,4,5,6,7,8,9,10,11,12,13,14,15,16,17,18,19,20,21,22,23,24,25,26,27,28,29,30,31,32,33,34,35,36,37,38,39,40,41,45,46,47,48,49,50,51,52,53,54,55,56,57,58,59,60,61,62,63,64,65,66,67,68,69,70,71,72,73,74,75,76,77,78,79,80,81,83,84,85,86,87,42,43,44,95,96,97,98,99,101,102,103,104,105,106,107,108,109,110,111,112,113,114,115,116,117,118,119,120,121,82,123,124,125,88,90,91,92,138,139,140,141,142,143,144,145,146,147,148,149,150,151,152,153,154,155,156,157,158,122,159,89,170,171,172,173,174,175,176,177,178,179,180,181,182,183,184,185,186,187,188,189,195,196,197,198,199,200,201,204,205,206,207,208,209,210,211,212,213,214,215,216,217,218,220,221,223,1000000,1000000,1000000,1000000,1000000,1000000,1000000]
def KE:List Nat:=[3,4,5,6,7,8,9,10,11,12,13,14,15,16,17,18,19,20,21,22,23,24,25,26,27,28,29,30,31,32,33,34,35,36,37,38,39,40,41,45,46,47,48,49,50,51,52,53,54,55,56,57,58,59,60,61,62,63,64,65,66,67,68,69,70,71,72,73,74,75,76,77,78,79,80,81,83,84,85,86,87,42,43,44,95,96,97,98,99,101,102,103,104,105,106,107,108,109,110,111,112,113,114,115,116,117,118,119,120,121,82,123,124,125,88,90,91,92,138,139,140,141,142,143,144,145,146,147,148,149,150,151,152,153,154,155,156,157,158,122,159,89,170,171,172,173,174,175,176,177,178,179,180,181,182,183,184,185,186,187,188,189,195,196,197,198,199,200,201,204,205,206,207,208,209,210,211,212,213,214,215,216,217,218,220,221,223,41,99,106,111,142,175,176]
noncomputable def yl:Nat→Option YL
 | 187=>yOf Tryz.f41 41 0 [1,2]
 | 188=>yOf Tryz.f99 99 0 [1]
 | 189=>yOf Tryz.f106 106 0 [2,4]
 | 190=>yOf Tryz.f111 111 0 [5,6,7,9]
 | 191=>yOf Tryz.f142 142 0 [2]
 | 192=>yOf Tryz.f175 175 0 [2]
 | 193=>yOf Tryz.f176 176 0 [3]
 | _=>none
noncomputable def E:Env:={ P:=Tryz.prog,inv:=λf=>if f<1000000 then x5 f tab 0 else none,tinv:=λ_=>none,bT:=none,pt:=[63,100] }
structure Ps where
 tabs:List (Nat×Nat×Value)
 rows:List (Nat×TypeId×Nat)
 errT:Nat
noncomputable def N0 (p:Ps):Nm:={ fn:=λk=>KE.getD k 0,ty:=λt=>if t=0 then p.errT else([63,100]:List Nat).getD (t - 1) 0,tabs:=p.tabs,rows:=p.rows,bT:=0,bE:=5,yl:=yl }
theorem d2l:(List.range 194).all (λk=>decide (1000000≤tab.getD k 0)||tab.getD k 0==KE.getD k 0)=true:=by kernel_rfl
theorem d2m:(List.range 194).all (λk=>decide (1000000≤tab.getD k 0) || !([187,188,189,190,191,192,193]:List Nat).contains k)=true:=by kernel_rfl
theorem Pj {f k:Nat} (h:E.inv f=some k):f<1000000∧tab[k]? = some f:=by
 have h:(if f<1000000 then x5 f tab 0 else none)=some k:=h
 split at h
 ·obtain⟨_,h2⟩:=Cd h
  exact⟨by assumption,by simpa using h2⟩
 ·simp at h
theorem Jg (p:Ps):EnvOk E (N0 p):=⟨λf k h=>by
 obtain⟨h5,h2⟩:=Pj h
 have hk:k<194:=(aj.1 h2).1
 have h3:=aD.1 d2l k (by simpa using hk)
 have h4:tab.getD k 0=f:=by rw[cK,h2]; rfl
 rw[h4] at h3
 show KE.getD k 0=f
 simp only[bA,aq,bo] at h3
 rcases h3 with h3|h3
 ·omega
 ·exact h3.symm,λf k h=>by
 obtain⟨h5,h2⟩:=Pj h
 have hk:k<194:=(aj.1 h2).1
 have h3:=aD.1 d2m k (by simpa using hk)
 have h4:tab.getD k 0=f:=by rw[cK,h2]; rfl
 rw[h4] at h3
 simp only[bA,aq,bz,List.contains_eq_mem,bN] at h3
 rcases h3 with h3|h3
 ·omega
 ·show yl k=none
  unfold yl
  split<;>first | rfl | (exfalso; apply h3; decide),λT i h=>by
 obtain⟨_,h2⟩:=Cd (show x5 T [63,100] 0=some i from h)
 show (if i+1=0 then p.errT else([63,100]:List Nat).getD (i+1 - 1) 0)=T
 rw[af (by omega),cK,show ([63,100]:List Nat)[i+1 - 1]? = some T by simpa using h2]; rfl,λt h=>by
 simp[E] at h⟩
theorem mixed:Tryz.prog.follows .mixedOrders=true:=by kernel_rfl
section
variable {p:Ps}
theorem o5:FnS E (N0 p) 5 Bs:=fnS [0,1,2,4,5,6,7,8,9,10,11,12,13,14,15,16] { hf:=[11],rs:=[23],lf:=[11] } Tryz.func8 (by kernel_rfl) (by decide)
theorem o6:FnS E (N0 p) 6 Jh:=fnS [0,1,2] {} Tryz.func9 (by kernel_rfl) (by decide)
theorem o7:FnS E (N0 p) 7 MP:=fnS [0,1,2,3,4,5,6] {} Tryz.func10 (by kernel_rfl) (by decide)
theorem o8:FnS E (N0 p) 8 Gv:=fnS [0,1,2,3,4,5,6,7,8,10,11,26,28,29,30,42,43,44,57,58] { hs:=[2,3,6,26],hf:=[31,32],bf:=[31,32] } Tryz.func11 (by kernel_rfl) (by decide)
theorem o11:FnS E (N0 p) 11 GB:=fnS [0,1,2,3,4,5,14,15,16] { hf:=[36],rs:=[34] } Tryz.func14 (by kernel_rfl) (by decide)
theorem o13:FnS E (N0 p) 13 MW:=fnS [0,1,4,5] {} Tryz.func16 (by kernel_rfl) (by decide)
theorem o14:FnS E (N0 p) 14 MX:=fnS [0,1,2] { nl:=true } Tryz.func17 (by kernel_rfl) (by decide)
theorem o17:FnS E (N0 p) 17 MY:=fnS [0,1,2,4,5] { hs:=[2,5],hf:=[40,45],rs:=[45] } Tryz.func20 (by kernel_rfl) (by decide)
theorem o19:FnS E (N0 p) 19 Jk:=fnS [0,1,2,4,5,6,7] { hf:=[49] } Tryz.func22 (by kernel_rfl) (by decide)
theorem o23:FnS E (N0 p) 23 Jl:=fnS [0,1,2,3,4,6,7,8,14,28,29,30,39,40,41] { hs:=[2,3,4,14],hf:=[55,56,57],bf:=[55,56,57] } Tryz.func26 (by kernel_rfl) (by decide)
theorem o24:FnS E (N0 p) 24 Fb:=fnS [0,2] {} Tryz.func27 (by kernel_rfl) (by decide)
theorem o25:FnS E (N0 p) 25 Jm:=fnS [0,1,2,4,5,6,7,8] {} Tryz.func28 (by kernel_rfl) (by decide)
theorem o26:FnS E (N0 p) 26 M1:=fnS [0,2] {} Tryz.func29 (by kernel_rfl) (by decide)
theorem o28:FnS E (N0 p) 28 GC:=fnS [0,1,2,4,7] { hs:=[0],hf:=[63],bf:=[63] } Tryz.func31 (by kernel_rfl) (by decide)
theorem o29:FnS E (N0 p) 29 DX:=fnS [0,1,4,5,7,8,9,11,13,49,50,51,63,64,65,86,87,88,121,122,123] { hs:=[0,4,5],hf:=[31,63,64,65,66,67,68,69],bf:=[31,63,65,66,67,68,69] } Tryz.func32 (by kernel_rfl) (by decide)
theorem o33:FnS E (N0 p) 33 M2:=fnS [0,2,3,5,6,8,9,10,11,25,26,27] { hf:=[80],rs:=[34],nl:=true,kp:=true } Tryz.func36 (by kernel_rfl) (by decide)
theorem o34:FnS E (N0 p) 34 GD:=fnS [0,2] {} Tryz.func37 (by kernel_rfl) (by decide)
theorem o35:FnS E (N0 p) 35 M3:=fnS [0,1,2,3,6,7,9,11,13,14,16,18,19,20,25,26,27,36,37,38,54,55,56] { hs:=[3],hf:=[83],hv:=[31,65],rs:=[42],nl:=true } Tryz.func38 (by kernel_rfl) (by decide)
theorem o37:FnS E (N0 p) 37 Jn:=fnS [0,1,2,5,17,18,19] { hf:=[86],hv:=[23] } Tryz.func40 (by kernel_rfl) (by decide)
theorem o38:FnS E (N0 p) 38 M5:=Dt [0,1,2,3,8] { hs:=[1,2],hf:=[42],rs:=[45],lps:=[(#[9],187,[1,2])] } [#[9]] Tryz.func41 (by kernel_rfl) (by decide) (by decide) ⟨⟨0,rfl,rfl⟩,trivial⟩
theorem o43:FnS E (N0 p) 43 Jo:=fnS [0,1,2,3,5,7,9,12,13,14,22,23,24,33,34,35] { hs:=[3],hf:=[40,97,98] } Tryz.func49 (by kernel_rfl) (by decide)
theorem o49:FnS E (N0 p) 49 GE:=fnS [0,1,2] { hs:=[0] } Tryz.func55 (by kernel_rfl) (by decide)
theorem o50:FnS E (N0 p) 50 D3:=fnS [0,1,3,5,23,24,25] { hs:=[0],hf:=[55,101],bf:=[55,101] } Tryz.func56 (by kernel_rfl) (by decide)
theorem o51:FnS E (N0 p) 51 Jq:=fnS [0,1,2,5,6,7,9,11,13,80,81,82,101,102,103,112,113,114,128,129,130] { hs:=[0],hf:=[55,101,102,103,104,105],bf:=[55,101,102,103,104,105] } Tryz.func57 (by kernel_rfl) (by decide)
theorem o52:FnS E (N0 p) 52 Jr:=fnS [0,1,4,5,6] {} Tryz.func58 (by kernel_rfl) (by decide)
theorem o53:FnS E (N0 p) 53 Js:=fnS [0,1,4,5,6] {} Tryz.func59 (by kernel_rfl) (by decide)
theorem o54:FnS E (N0 p) 54 Jt:=fnS [0,1,4,5,6] {} Tryz.func60 (by kernel_rfl) (by decide)
theorem o55:FnS E (N0 p) 55 Ju:=fnS [0,1,4,5,6,7,8] {} Tryz.func61 (by kernel_rfl) (by decide)
theorem o56:FnS E (N0 p) 56 M9:=fnS [0,2] {} Tryz.func62 (by kernel_rfl) (by decide)
theorem o57:FnS E (N0 p) 57 GF:=fnS [0,1,2] { hs:=[0] } Tryz.func63 (by kernel_rfl) (by decide)
theorem o58:FnS E (N0 p) 58 E2:=fnS [0,2,7] { hs:=[0,2,7] } Tryz.func64 (by kernel_rfl) (by decide)
theorem o59:FnS E (N0 p) 59 GG:=fnS [0,1,2,7,9,10,11,12] { hs:=[0,1],hf:=[63,109],bf:=[63] } Tryz.func65 (by kernel_rfl) (by decide)
theorem o60:FnS E (N0 p) 60 GH:=fnS [0,1,2,7,9,10,11,12,17,18,19] { hs:=[0,1],hf:=[63,109],bf:=[63] } Tryz.func66 (by kernel_rfl) (by decide)
theorem o61:FnS E (N0 p) 61 D4:=fnS [0,1,2,3,7,9,11,12,13] { hs:=[0,2],hf:=[63,109,110,111],rs:=[42],bf:=[63,111] } Tryz.func67 (by kernel_rfl) (by decide)
theorem o62:FnS E (N0 p) 62 Jz:=fnS [0,1,2,3,7,8,9,10,11,12,13,14,16,18,19,20,36,37,38,61,62,63] { hs:=[0,2],hf:=[63,114],rs:=[42],bf:=[63,114] } Tryz.func68 (by kernel_rfl) (by decide)
theorem o63:FnS E (N0 p) 63 DV:=fnS [0,1,2,3,8,10,12,15,16,17,28,29,30] { hs:=[0,8],hf:=[36,64,111],rs:=[34],bf:=[111] } Tryz.func69 (by kernel_rfl) (by decide)
theorem o74:FnS E (N0 p) 74 Nb:=fnS [0,1,4] { rs:=[34],kp:=true } Tryz.func80 (by kernel_rfl) (by decide)
theorem o75:FnS E (N0 p) 75 Nc:=fnS [0,1] { hs:=[1],hf:=[82],rs:=[42] } Tryz.func81 (by kernel_rfl) (by decide)
theorem o76:FnS E (N0 p) 76 Nd:=fnS [0,1,4] { hf:=[123] } Tryz.func83 (by kernel_rfl) (by decide)
theorem o77:FnS E (N0 p) 77 Nf:=fnS [0,1,2,3] {} Tryz.func84 (by kernel_rfl) (by decide)
theorem o79:FnS E (N0 p) 79 JB:=fnS [0,1,2,7,9,11,13,14,15,16,25,26,27,32,33,34,49,50,51] { hf:=[86],hv:=[20,55] } Tryz.func86 (by kernel_rfl) (by decide)
theorem o80:FnS E (N0 p) 80 Nj:=fnS [0,2,3,5,6,8,9,10,11,25,26,27] { hf:=[125],rs:=[38],nl:=true } Tryz.func87 (by kernel_rfl) (by decide)
theorem o81:FnS E (N0 p) 81 JC:=fnS [0,1,2] {} Tryz.func42 (by kernel_rfl) (by decide)
theorem o82:FnS E (N0 p) 82 Nk:=fnS [0,1,2,3,4,5,6] {} Tryz.func43 (by kernel_rfl) (by decide)
theorem o83:FnS E (N0 p) 83 Nl:=fnS [0,1,4] { hf:=[92],rs:=[45] } Tryz.func44 (by kernel_rfl) (by decide)
theorem o86:FnS E (N0 p) 86 JD:=fnS [0,1,5,7,8,9,10,18,19,20] {} Tryz.func97 (by kernel_rfl) (by decide)
theorem o87:FnS E (N0 p) 87 JE:=fnS [0,1,2,7,9,11,13,14,15,16,21,22,23,31,32,33,38,39,40] { hf:=[97,98] } Tryz.func98 (by kernel_rfl) (by decide)
theorem o88:FnS E (N0 p) 88 JF:=Dt [0,1,2,5] { hs:=[1],hf:=[42],lps:=[(#[6],188,[1])] } [#[6]] Tryz.func99 (by kernel_rfl) (by decide) (by decide) ⟨⟨0,rfl,rfl⟩,trivial⟩
theorem o89:FnS E (N0 p) 89 JG:=fnS [0,1] { hs:=[0],hf:=[55],bf:=[55] } Tryz.func101 (by kernel_rfl) (by decide)
theorem o90:FnS E (N0 p) 90 JH:=fnS [0,1,2,7,9,10,11,12,47,48,49] { hs:=[0],hf:=[55,101],bf:=[55,101] } Tryz.func102 (by kernel_rfl) (by decide)
theorem o91:FnS E (N0 p) 91 Fdq:=fnS [0,1,3,5,19,20,21] { hs:=[0],hf:=[55,101,105],bf:=[55,101,105] } Tryz.func103 (by kernel_rfl) (by decide)
theorem o92:FnS E (N0 p) 92 D5:=fnS [0,1,2,4,7,9,11,29,30,31,72,73,74,83,84,85] { hs:=[0],hf:=[55,101,102,103,104,141],bf:=[55,101,102,103,104,141] } Tryz.func104 (by kernel_rfl) (by decide)
theorem o93:FnS E (N0 p) 93 GI:=fnS [0,1] { hs:=[0],hf:=[55],bf:=[55] } Tryz.func105 (by kernel_rfl) (by decide)
theorem o94:FnS E (N0 p) 94 GJ:=Dt [0,1,2,3,4,5,14] { hs:=[2,4],hf:=[42],lps:=[(#[15],189,[2,4])] } [#[15]] Tryz.func106 (by kernel_rfl) (by decide) (by decide) ⟨⟨0,rfl,rfl⟩,trivial⟩
theorem o95:FnS E (N0 p) 95 JI:=fnS [0,1,2,4,5,6] {} Tryz.func107 (by kernel_rfl) (by decide)
theorem o96:FnS E (N0 p) 96 JJ:=fnS [0,1,4,5,6] {} Tryz.func108 (by kernel_rfl) (by decide)
theorem o97:FnS E (N0 p) 97 D6:=fnS [0,1,4] { hs:=[0] } Tryz.func109 (by kernel_rfl) (by decide)
theorem o98:FnS E (N0 p) 98 Dc:=fnS [0,1,4] { hs:=[0] } Tryz.func110 (by kernel_rfl) (by decide)
theorem o99:FnS E (N0 p) 99 Fg:=Dt [0,1,2,3,4,5,6,7,8,9,12] { hs:=[0,2,5,6,7,9],hf:=[42],lps:=[(#[13],190,[5,6,7,9])] } [#[13]] Tryz.func111 (by kernel_rfl) (by decide) (by decide) ⟨⟨0,rfl,rfl⟩,trivial⟩
theorem d3q:FnS E (N0 p) 100 JK:=fnS [0,1,4] { hf:=[145] } Tryz.func112 (by kernel_rfl) (by decide)
theorem d3r:FnS E (N0 p) 101 JL:=fnS [0,1,2,3] {} Tryz.func113 (by kernel_rfl) (by decide)
theorem d3s:FnS E (N0 p) 102 JQ:=fnS [0,1,2,3,7,8,9,11,13,15,17,21,22,23,39,40,41,52,53,54,77,78,79] { hs:=[0,2],hf:=[63,64,65,66,67,68,146,147],bf:=[63,65,66,67,68,146] } Tryz.func114 (by kernel_rfl) (by decide)
theorem d3t:FnS E (N0 p) 103 GK:=fnS [0,1,3,4] {} Tryz.func115 (by kernel_rfl) (by decide)
theorem d3u:FnS E (N0 p) 110 JR:=fnS [0,1,4] { hf:=[122],rs:=[42] } Tryz.func82 (by kernel_rfl) (by decide)
theorem d3v:FnS E (N0 p) 111 Nt:=fnS [0,1,4,5,7,8] { hv:=[11] } Tryz.func123 (by kernel_rfl) (by decide)
theorem d3w:FnS E (N0 p) 112 Nu:=fnS [0,2,3,5,6,8,9,10,11,25,26,27] { hf:=[159],rs:=[138],nl:=true } Tryz.func124 (by kernel_rfl) (by decide)
theorem d3x:FnS E (N0 p) 113 Nv:=fnS [0,1,4] { rs:=[38],kp:=true } Tryz.func125 (by kernel_rfl) (by decide)
theorem d3y:FnS E (N0 p) 114 GL:=fnS [0,1] { hf:=[89],bf:=[89] } Tryz.func88 (by kernel_rfl) (by decide)
theorem d3z:FnS E (N0 p) 115 Nw:=fnS [0,1,4,5,7,8] { hv:=[11] } Tryz.func90 (by kernel_rfl) (by decide)
theorem d3A:FnS E (N0 p) 116 Nx:=fnS [0,1,2,3] {} Tryz.func91 (by kernel_rfl) (by decide)
theorem d3B:FnS E (N0 p) 117 Ny:=fnS [0,1,4,5,7,8] { rs:=[45] } Tryz.func92 (by kernel_rfl) (by decide)
theorem d3C:FnS E (N0 p) 118 Dd:=fnS [0,2,3,22,23] {} Tryz.func138 (by kernel_rfl) (by decide)
theorem d3D:FnS E (N0 p) 119 Fh:=fnS [0,1,4,5,7] {} Tryz.func139 (by kernel_rfl) (by decide)
theorem d3E:FnS E (N0 p) 120 Fi:=fnS [0,1,2,6] {} Tryz.func140 (by kernel_rfl) (by decide)
theorem d3F:FnS E (N0 p) 121 JS:=fnS [0,1,2,3,9,10,11,12] { hs:=[0],hf:=[55,105],bf:=[55,105] } Tryz.func141 (by kernel_rfl) (by decide)
theorem d3G:FnS E (N0 p) 122 Fj:=Dt [0,1,2,14] { hs:=[2],hf:=[42],lps:=[(#[15],191,[2])] } [#[15]] Tryz.func142 (by kernel_rfl) (by decide) (by decide) ⟨⟨0,rfl,rfl⟩,trivial⟩
theorem d3H:FnS E (N0 p) 123 BV:=fnS [0,1,3,4,5,11,12] {} Tryz.func143 (by kernel_rfl) (by decide)
theorem d3I:FnS E (N0 p) 124 De:=fnS [0,1,2,3,6,8,9] { hs:=[0],hf:=[63],bf:=[63] } Tryz.func144 (by kernel_rfl) (by decide)
theorem d3J:FnS E (N0 p) 125 GM:=fnS [0,1,4,5,7,8] { hv:=[11] } Tryz.func145 (by kernel_rfl) (by decide)
theorem d3K:FnS E (N0 p) 126 GN:=fnS [0,1,2,3,9,10,11,12] { hs:=[0,2],hf:=[111],bf:=[111] } Tryz.func146 (by kernel_rfl) (by decide)
theorem d3L:FnS E (N0 p) 127 Fk:=fnS [0,1,4,5,6,7] { hf:=[179],hv:=[26],rs:=[42],kp:=true } Tryz.func147 (by kernel_rfl) (by decide)
theorem d3M:FnS E (N0 p) 128 GO:=fnS [0,1,3] {} Tryz.func148 (by kernel_rfl) (by decide)
theorem d3N:FnS E (N0 p) 129 JT:=fnS [0,1,4] { hf:=[179] } Tryz.func149 (by kernel_rfl) (by decide)
theorem d3O:FnS E (N0 p) 130 JU:=fnS [0,1,3] {} Tryz.func150 (by kernel_rfl) (by decide)
theorem d3P:FnS E (N0 p) 139 GP:=fnS [0,1,4,5,7,8] { rs:=[42] } Tryz.func122 (by kernel_rfl) (by decide)
theorem d3Q:FnS E (N0 p) 140 ND:=fnS [0,1,4] { rs:=[138],kp:=true } Tryz.func159 (by kernel_rfl) (by decide)
theorem d3R:FnS E (N0 p) 141 BW:=fnS [0,1,2,4,6,12,13,14] { hf:=[89],hv:=[7],bf:=[89],bv:=[7] } Tryz.func89 (by kernel_rfl) (by decide)
theorem d3S:FnS E (N0 p) 142 JV:=fnS [0,2] {} Tryz.func170 (by kernel_rfl) (by decide)
theorem d3T:FnS E (N0 p) 143 JW:=fnS [0,2,3,4] {} Tryz.func171 (by kernel_rfl) (by decide)
theorem d3U:FnS E (N0 p) 144 GQ:=fnS [0,2] {} Tryz.func172 (by kernel_rfl) (by decide)
theorem d3V:FnS E (N0 p) 145 Fm:=fnS [0,1,4,5] {} Tryz.func173 (by kernel_rfl) (by decide)
theorem d3W:FnS E (N0 p) 146 JX:=fnS [0,2] {} Tryz.func174 (by kernel_rfl) (by decide)
theorem d3X:FnS E (N0 p) 147 JY:=Dt [0,1,2,5] { hs:=[2],hf:=[42],lps:=[(#[6],192,[2])] } [#[6]] Tryz.func175 (by kernel_rfl) (by decide) (by decide) ⟨⟨0,rfl,rfl⟩,trivial⟩
theorem d3Y:FnS E (N0 p) 148 JZ:=Dt [0,1,2,3,5] { hs:=[3],hf:=[42],lps:=[(#[6],193,[3])] } [#[6]] Tryz.func176 (by kernel_rfl) (by decide) (by decide) ⟨⟨0,rfl,rfl⟩,trivial⟩
theorem d3Z:FnS E (N0 p) 149 J0:=fnS [0,1,2,3,5,7,8,9] {} Tryz.func177 (by kernel_rfl) (by decide)
theorem d30:FnS E (N0 p) 150 zJ:=fnS [0,1,2,3,4,5] {} Tryz.func178 (by kernel_rfl) (by decide)
theorem d31:FnS E (N0 p) 151 D7:=fnS [0,1,4,5,7,8] { hv:=[11],rs:=[42] } Tryz.func179 (by kernel_rfl) (by decide)
theorem d32:FnS E (N0 p) 162 J2:=fnS [0,2] {} Tryz.func195 (by kernel_rfl) (by decide)
theorem d33:FnS E (N0 p) 163 yG:=fnS [0,1,2,3,4,5,18,77] {} Tryz.func196 (by kernel_rfl) (by decide)
theorem d34:FnS E (N0 p) 164 Ck:=fnS [0,2,3,4,5,6,7,8,9,10,11,12,13] {} Tryz.func197 (by kernel_rfl) (by decide)
theorem d35:FnS E (N0 p) 169 D8:=fnS [0,1,4] {} Tryz.func204 (by kernel_rfl) (by decide)
theorem d36:FnS E (N0 p) 170 GR:=fnS [0,2] {} Tryz.func205 (by kernel_rfl) (by decide)
theorem d37:FnS E (N0 p) 171 Fo:=fnS [0,1,4] {} Tryz.func206 (by kernel_rfl) (by decide)
theorem d38:FnS E (N0 p) 172 GT:=fnS [0,1,4,5,6] {} Tryz.func207 (by kernel_rfl) (by decide)
theorem d39:FnS E (N0 p) 173 J3:=fnS [0,1,4,5] {} Tryz.func208 (by kernel_rfl) (by decide)
theorem d4a:FnS E (N0 p) 174 J4:=fnS [0,2,3,4,5,7,8] {} Tryz.func209 (by kernel_rfl) (by decide)
theorem d4b:FnS E (N0 p) 175 Fp:=fnS [0,1,2] {} Tryz.func210 (by kernel_rfl) (by decide)
theorem d4c:FnS E (N0 p) 179 GU:=fnS [0,1,4,5,6,7] {} Tryz.func214 (by kernel_rfl) (by decide)
theorem d4d:FnS E (N0 p) 180 GV:=fnS [0,1,4,5] {} Tryz.func215 (by kernel_rfl) (by decide)
theorem d4e:FnS E (N0 p) 181 GW:=fnS [0,1,4,5,6,7,8,9,10,11,12,13] {} Tryz.func216 (by kernel_rfl) (by decide)
theorem d4f:FnS E (N0 p) 182 Fq:=fnS [0,1,4] {} Tryz.func217 (by kernel_rfl) (by decide)
theorem d4g:FnS E (N0 p) 184 NE:=fnS [0,2] {} Tryz.func220 (by kernel_rfl) (by decide)
theorem d4h:FnS E (N0 p) 185 NG:=fnS [0,1,4,5,6,7,8,9,10] {} Tryz.func221 (by kernel_rfl) (by decide)
theorem d4i:FnS E (N0 p) 186 NH:=fnS [0,2,3,4,5,6,7,8] {} Tryz.func223 (by kernel_rfl) (by decide)
theorem d4j:FnS E (N0 p) 187 NI:=rdS [1,2] [1,2,9,4,5,6] { hs:=[1,2],hf:=[44],rs:=[45] } 0 #[9] rfl Tryz.func41 (by kernel_rfl) (by kernel_rfl) (by decide)
theorem d4k:FnS E (N0 p) 188 BX:=rdS [1] [1,6,3,8,12] { hs:=[1] } 0 #[6] rfl Tryz.func99 (by kernel_rfl) (by kernel_rfl) (by decide)
theorem d4l:FnS E (N0 p) 189 GX:=rdS [2,4] [2,4,15,6,7] { hs:=[2,4] } 0 #[15] rfl Tryz.func106 (by kernel_rfl) (by kernel_rfl) (by decide)
theorem d4m:FnS E (N0 p) 190 Df:=rdS [5,6,7,9] [5,6,7,9,13,10,15,16] { hs:=[5,6,7,9],hf:=[63,109,144],bf:=[63,144],rf:=[109] } 0 #[13] rfl Tryz.func111 (by kernel_rfl) (by kernel_rfl) (by decide)
theorem d4n:FnS E (N0 p) 191 GY:=rdS [2] [2,15,3,4] { hs:=[2] } 0 #[15] rfl Tryz.func142 (by kernel_rfl) (by kernel_rfl) (by decide)
theorem d4o:FnS E (N0 p) 192 CP:=rdS [2] [2,6,3,8,9] { hs:=[2] } 0 #[6] rfl Tryz.func175 (by kernel_rfl) (by kernel_rfl) (by decide)
theorem d4p:FnS E (N0 p) 193 J5:=rdS [3] [3,6] { hs:=[3] } 0 #[6] rfl Tryz.func176 (by kernel_rfl) (by kernel_rfl) (by decide)
theorem d2n (h39:C1 (N0 p) Tryz.prog 39 Gg) (h44:C1 (N0 p) Tryz.prog 44 DR) (h183:C1 (N0 p) Tryz.prog 183 Gf) (h27:CH (N0 p) Tryz.prog 27 (AH 1)) (h48:CH (N0 p) Tryz.prog 48 (AH 2)):∀k pf,LS k=some pf→FnS E (N0 p) k pf:=by
 have all:AllFn E (N0 p) 0 LSt:=⟨o5,o6,o7,o8,o11,o13,o14,o17,o19,o23,o24,o25,o26,.inl ⟨rfl,rfl,by decide,.inr (.inr ⟨_,Tryz.f30,rfl,rfl,rfl,Tryz.func30,by decide,by kernel_rfl,h27⟩)⟩,o28,o29,o33,o34,o35,o37,o38,.inl ⟨rfl,rfl,by decide,.inr (.inl ⟨_,Tryz.f45,rfl,rfl,Tryz.func45,by decide,by kernel_rfl,h39⟩)⟩,o43,.inl ⟨rfl,rfl,by decide,.inr (.inl ⟨_,Tryz.f50,rfl,rfl,Tryz.func50,by decide,by kernel_rfl,h44⟩)⟩,.inl ⟨rfl,rfl,by decide,.inr (.inr ⟨_,Tryz.f54,rfl,rfl,rfl,Tryz.func54,by decide,by kernel_rfl,h48⟩)⟩,o49,o50,o51,o52,o53,o54,o55,o56,o57,o58,o59,o60,o61,o62,o63,o74,o75,o76,o77,o79,o80,o81,o82,o83,o86,o87,o88,o89,o90,o91,o92,o93,o94,o95,o96,o97,o98,o99,d3q,d3r,d3s,d3t,d3u,d3v,d3w,d3x,d3y,d3z,d3A,d3B,d3C,d3D,d3E,d3F,d3G,d3H,d3I,d3J,d3K,d3L,d3M,d3N,d3O,d3P,d3Q,d3R,d3S,d3T,d3U,d3V,d3W,d3X,d3Y,d3Z,d30,d31,d32,d33,d34,d35,d36,d37,d38,d39,d4a,d4b,d4c,d4d,d4e,d4f,.inl ⟨rfl,rfl,by decide,.inr (.inl ⟨_,Tryz.f218,rfl,rfl,Tryz.func218,by decide,by kernel_rfl,h183⟩)⟩,d4g,d4h,d4i,d4j,d4k,d4l,d4m,d4n,d4o,d4p,trivial⟩
 intro k pf h
 have:=all.get (k:=k) (f:=pf) h
 rwa [aR] at this
end
end Go.Proofs.YtljbhgpanekomaaGreatDoor.Pi
