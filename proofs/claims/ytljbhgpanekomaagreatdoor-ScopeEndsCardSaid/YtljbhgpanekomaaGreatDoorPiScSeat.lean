import Derived.Test.YtljbhgpanekomaaGreatDoorChecked
import Derived.Test.YtljbhgpanekomaaGreatDoorPiLaw2
import Derived.Test.YtljbhgpanekomaaGreatDoorPiStand
import Derived.Test.YtljbhgpanekomaaGreatDoorPiScCode
import Derived.KernelRfl
set_option maxRecDepth 100000
set_option linter.unusedSectionVars false
namespace Go.Proofs.YtljbhgpanekomaaGreatDoor.Pi
open Go PI PI.Sc
def tab:List Nat:=[3,4,5,6,7,8,9,10,11,12,13,14,15,16,17,18,19,20,21,22,23,24,25,26,27,28,29,30,31,32,33,34,35,36,37,38,39,40,41,45,46,47,48,49,50,51,52,53,54,55,56,57,58,59,60,61,62,63,64,65,66,67,68,69,70,71,72,73,74,75,76,77,78,79,80,81,83,84,85,86,87,42,43,44,95,96,97,98,99,101,102,103,104,105,106,107,108,109,110,111,112,113,114,115,116,117,118,119,120,121,82,123,124,125,88,90,91,92,138,139,140,141,142,143,144,145,146,147,148,149,150,151,152,153,154,155,156,157,158,122,159,89,170,171,172,173,174,175,176,177,178,179,180,181,182,183,184,185,186,187,188,189,195,196,197,198,199,200,201,204,205,206,207,208,209,210,211,212,213,214,215,216,217,218,220,221,223,1000000,1000000,1000000,1000000,1000000,1000000,1000000]
def d0D:List Nat:=[3,4,5,6,7,8,9,10,11,12,13,14,15,16,17,18,19,20,21,22,23,24,25,26,27,28,29,30,31,32,33,34,35,36,37,38,39,40,41,45,46,47,48,49,50,51,52,53,54,55,56,57,58,59,60,61,62,63,64,65,66,67,68,69,70,71,72,73,74,75,76,77,78,79,80,81,83,84,85,86,87,42,43,44,95,96,97,98,99,101,102,103,104,105,106,107,108,109,110,111,112,113,114,115,116,117,118,119,120,121,82,123,124,125,88,90,91,92,138,139,140,141,142,143,144,145,146,147,148,149,150,151,152,153,154,155,156,157,158,122,159,89,170,171,172,173,174,175,176,177,178,179,180,181,182,183,184,185,186,187,188,189,195,196,197,198,199,200,201,204,205,206,207,208,209,210,211,212,213,214,215,216,217,218,220,221,223,41,99,106,111,142,175,176]
noncomputable def yl:Nat→Option YL
 | 187=>yOf Tryz.f41 41 0 [1,2]
 | 188=>yOf Tryz.f99 99 0 [1]
 | 189=>yOf Tryz.f106 106 0 [2,4]
 | 190=>yOf Tryz.f111 111 0 [5,6,7,9]
 | 191=>yOf Tryz.f142 142 0 [2]
 | 192=>yOf Tryz.f175 175 0 [2]
 | 193=>yOf Tryz.f176 176 0 [3]
 | _=>none
noncomputable def E:Env:={ P:=Tryz.prog,inv:=λf=>if f<1000000 then a3O f tab 0 else none,tinv:=λ_=>none,bT:=none,pt:=[63,100] }
structure Ps where
 tabs:List (Nat×Nat×Value)
 rows:List (Nat×TypeId×Nat)
 errT:Nat
noncomputable def N0 (p:Ps):Nm:={ fn:=λk=>d0D.getD k 0,ty:=λt=>if t=0 then p.errT else([63,100]:List Nat).getD (t - 1) 0,tabs:=p.tabs,rows:=p.rows,bT:=0,bE:=5,yl:=yl }
theorem d0E:(List.range 194).all (λk=>decide (1000000≤tab.getD k 0)||tab.getD k 0==d0D.getD k 0)=true:=by kernel_rfl
theorem d0F:(List.range 194).all (λk=>decide (1000000≤tab.getD k 0) || !([187,188,189,190,191,192,193]:List Nat).contains k)=true:=by kernel_rfl
theorem b9A {f k:Nat} (h:E.inv f=some k):f<1000000∧tab[k]? = some f:=by
 have h:(if f<1000000 then a3O f tab 0 else none)=some k:=h
 split at h
 ·obtain⟨_,h2⟩:=a28 h
  exact⟨by assumption,by simpa using h2⟩
 ·simp at h
theorem c3S (p:Ps):EnvOk E (N0 p):=⟨λf k h=>by
 obtain⟨h5,h2⟩:=b9A h
 have hk:k<194:=(List.getElem?_eq_some_iff.1 h2).1
 have h3:=List.all_eq_true.1 d0E k (by simpa using hk)
 have h4:tab.getD k 0=f:=by rw[List.getD_eq_getElem?_getD,h2]; rfl
 rw[h4] at h3
 show d0D.getD k 0=f
 simp only[Bool.or_eq_true,decide_eq_true_eq,beq_iff_eq] at h3
 rcases h3 with h3|h3
 ·omega
 ·exact h3.symm,λf k h=>by
 obtain⟨h5,h2⟩:=b9A h
 have hk:k<194:=(List.getElem?_eq_some_iff.1 h2).1
 have h3:=List.all_eq_true.1 d0F k (by simpa using hk)
 have h4:tab.getD k 0=f:=by rw[List.getD_eq_getElem?_getD,h2]; rfl
 rw[h4] at h3
 simp only[Bool.or_eq_true,decide_eq_true_eq,Bool.not_eq_true',List.contains_eq_mem,decide_eq_false_iff_not] at h3
 rcases h3 with h3|h3
 ·omega
 ·show yl k=none
  unfold yl
  split<;>first | rfl | (exfalso; apply h3; decide),λT i h=>by
 obtain⟨_,h2⟩:=a28 (show a3O T [63,100] 0=some i from h)
 show (if i+1=0 then p.errT else([63,100]:List Nat).getD (i+1 - 1) 0)=T
 rw[if_neg (by omega),List.getD_eq_getElem?_getD,show ([63,100]:List Nat)[i+1 - 1]? = some T by simpa using h2]; rfl,λt h=>by
 simp[E] at h⟩
theorem mixed:Tryz.prog.follows .mixedOrders=true:=by kernel_rfl
section
variable {p:Ps}
theorem o4:FnS E (N0 p) 4 a1K:=fnS [0,1,2,3,4,5,6,7] {} Tryz.func7 (by kernel_rfl) (by decide)
theorem o6:FnS E (N0 p) 6 a6E:=fnS [0,1,2] {} Tryz.func9 (by kernel_rfl) (by decide)
theorem o7:FnS E (N0 p) 7 a8Q:=fnS [0,1,2,3,4,5,6] {} Tryz.func10 (by kernel_rfl) (by decide)
theorem o8:FnS E (N0 p) 8 a44:=fnS [0,1,2,3,4,5,6,7,8,10,11,26,28,29,30,42,43,44,57,58] ⟨[2,3,6,26],[31,32],[],[],[31,32],[],[],false,false,false,[],[],false⟩ Tryz.func11 (by kernel_rfl) (by decide)
theorem o11:FnS E (N0 p) 11 a5J:=fnS [0,1,2,3,4,5,14,15,16] ⟨[],[36],[],[34],[],[],[],false,false,false,[],[],false⟩ Tryz.func14 (by kernel_rfl) (by decide)
theorem o13:FnS E (N0 p) 13 a6g:=fnS [0,1,4,5] {} Tryz.func16 (by kernel_rfl) (by decide)
theorem o14:FnS E (N0 p) 14 a7k:=fnS [0,1,2] ⟨[],[],[],[],[],[],[],false,true,false,[],[],false⟩ Tryz.func17 (by kernel_rfl) (by decide)
theorem o17:FnS E (N0 p) 17 a8R:=fnS [0,1,2,4,5] ⟨[2,5],[40,45],[],[45],[],[],[],false,false,false,[],[],false⟩ Tryz.func20 (by kernel_rfl) (by decide)
theorem o19:FnS E (N0 p) 19 a8S:=fnS [0,1,2,4,5,6,7] ⟨[],[49],[],[],[],[],[],false,false,false,[],[],false⟩ Tryz.func22 (by kernel_rfl) (by decide)
theorem o23:FnS E (N0 p) 23 a6F:=fnS [0,1,2,3,4,6,7,8,14,28,29,30,39,40,41] ⟨[2,3,4,14],[55,56,57],[],[],[55,56,57],[],[],false,false,false,[],[],false⟩ Tryz.func26 (by kernel_rfl) (by decide)
theorem o25:FnS E (N0 p) 25 a6G:=fnS [0,1,2,4,5,6,7,8] {} Tryz.func28 (by kernel_rfl) (by decide)
theorem o26:FnS E (N0 p) 26 b1x:=fnS [0,2] {} Tryz.func29 (by kernel_rfl) (by decide)
theorem o28:FnS E (N0 p) 28 a3s:=fnS [0,1,2,4,7] ⟨[0],[63],[],[],[63],[],[],false,false,false,[],[],false⟩ Tryz.func31 (by kernel_rfl) (by decide)
theorem o29:FnS E (N0 p) 29 a1L:=fnS [0,1,4,5,7,8,9,11,13,49,50,51,63,64,65,86,87,88,121,122,123] ⟨[0,4,5],[31,63,64,65,66,67,68,69],[],[],[31,63,65,66,67,68,69],[],[],false,false,false,[],[],false⟩ Tryz.func32 (by kernel_rfl) (by decide)
theorem o33:FnS E (N0 p) 33 a3F:=fnS [0,2,3,5,6,8,9,10,11,25,26,27] ⟨[],[80],[],[34],[],[],[],false,true,true,[],[],false⟩ Tryz.func36 (by kernel_rfl) (by decide)
theorem o34:FnS E (N0 p) 34 a11:=fnS [0,2] {} Tryz.func37 (by kernel_rfl) (by decide)
theorem o35:FnS E (N0 p) 35 a7l:=fnS [0,1,2,3,6,7,9,11,13,14,16,18,19,20,25,26,27,36,37,38,54,55,56] ⟨[3],[83],[31,65],[42],[],[],[],false,true,false,[],[],false⟩ Tryz.func38 (by kernel_rfl) (by decide)
theorem o37:FnS E (N0 p) 37 a8X:=fnS [0,1,2,5,17,18,19] ⟨[],[86],[23],[],[],[],[],false,false,false,[],[],false⟩ Tryz.func40 (by kernel_rfl) (by decide)
theorem o38:FnS E (N0 p) 38 a7m:=c4C [0,1,2,3,8] ⟨[1,2],[42],[],[45],[],[],[(#[9],187,[1,2])],false,false,false,[],[],false⟩ [#[9]] Tryz.func41 (by kernel_rfl) (by decide) (by decide) ⟨⟨0,rfl,rfl⟩,trivial⟩
theorem o43:FnS E (N0 p) 43 a8Y:=fnS [0,1,2,3,5,7,9,12,13,14,22,23,24,33,34,35] ⟨[3],[40,97,98],[],[],[],[],[],false,false,false,[],[],false⟩ Tryz.func49 (by kernel_rfl) (by decide)
theorem o49:FnS E (N0 p) 49 a23:=fnS [0,1,2] ⟨[0],[],[],[],[],[],[],false,false,false,[],[],false⟩ Tryz.func55 (by kernel_rfl) (by decide)
theorem o50:FnS E (N0 p) 50 a1M:=fnS [0,1,3,5,23,24,25] ⟨[0],[55,101],[],[],[55,101],[],[],false,false,false,[],[],false⟩ Tryz.func56 (by kernel_rfl) (by decide)
theorem o51:FnS E (N0 p) 51 a4i:=fnS [0,1,2,5,6,7,9,11,13,80,81,82,101,102,103,112,113,114,128,129,130] ⟨[0],[55,101,102,103,104,105],[],[],[55,101,102,103,104,105],[],[],false,false,false,[],[],false⟩ Tryz.func57 (by kernel_rfl) (by decide)
theorem o52:FnS E (N0 p) 52 a3Q:=fnS [0,1,4,5,6] {} Tryz.func58 (by kernel_rfl) (by decide)
theorem o53:FnS E (N0 p) 53 a4T:=fnS [0,1,4,5,6] {} Tryz.func59 (by kernel_rfl) (by decide)
theorem o54:FnS E (N0 p) 54 a3R:=fnS [0,1,4,5,6] {} Tryz.func60 (by kernel_rfl) (by decide)
theorem o55:FnS E (N0 p) 55 a3S:=fnS [0,1,4,5,6,7,8] {} Tryz.func61 (by kernel_rfl) (by decide)
theorem o56:FnS E (N0 p) 56 a6V:=fnS [0,2] {} Tryz.func62 (by kernel_rfl) (by decide)
theorem o57:FnS E (N0 p) 57 a24:=fnS [0,1,2] ⟨[0],[],[],[],[],[],[],false,false,false,[],[],false⟩ Tryz.func63 (by kernel_rfl) (by decide)
theorem o58:FnS E (N0 p) 58 a1P:=fnS [0,2,7] ⟨[0,2,7],[],[],[],[],[],[],false,false,false,[],[],false⟩ Tryz.func64 (by kernel_rfl) (by decide)
theorem o59:FnS E (N0 p) 59 a2f:=fnS [0,1,2,7,9,10,11,12] ⟨[0,1],[63,109],[],[],[63],[],[],false,false,false,[],[],false⟩ Tryz.func65 (by kernel_rfl) (by decide)
theorem o60:FnS E (N0 p) 60 a1U:=fnS [0,1,2,7,9,10,11,12,17,18,19] ⟨[0,1],[63,109],[],[],[63],[],[],false,false,false,[],[],false⟩ Tryz.func66 (by kernel_rfl) (by decide)
theorem o61:FnS E (N0 p) 61 a06:=fnS [0,1,2,3,7,9,11,12,13] ⟨[0,2],[63,109,110,111],[],[42],[63,111],[],[],false,false,false,[],[],false⟩ Tryz.func67 (by kernel_rfl) (by decide)
theorem o62:FnS E (N0 p) 62 a4j:=fnS [0,1,2,3,7,8,9,10,11,12,13,14,16,18,19,20,36,37,38,61,62,63] ⟨[0,2],[63,114],[],[42],[63,114],[],[],false,false,false,[],[],false⟩ Tryz.func68 (by kernel_rfl) (by decide)
theorem o63:FnS E (N0 p) 63 a1q:=fnS [0,1,2,3,8,10,12,15,16,17,28,29,30] ⟨[0,8],[36,64,111],[],[34],[111],[],[],false,false,false,[],[],false⟩ Tryz.func69 (by kernel_rfl) (by decide)
theorem o74:FnS E (N0 p) 74 a4d:=fnS [0,1,4] ⟨[],[],[],[34],[],[],[],false,false,true,[],[],false⟩ Tryz.func80 (by kernel_rfl) (by decide)
theorem o75:FnS E (N0 p) 75 a6h:=fnS [0,1] ⟨[1],[82],[],[42],[],[],[],false,false,false,[],[],false⟩ Tryz.func81 (by kernel_rfl) (by decide)
theorem o76:FnS E (N0 p) 76 a2u:=fnS [0,1,4] ⟨[],[123],[],[],[],[],[],false,false,false,[],[],false⟩ Tryz.func83 (by kernel_rfl) (by decide)
theorem o77:FnS E (N0 p) 77 a6i:=fnS [0,1,2,3] {} Tryz.func84 (by kernel_rfl) (by decide)
theorem o79:FnS E (N0 p) 79 a5q:=fnS [0,1,2,7,9,11,13,14,15,16,25,26,27,32,33,34,49,50,51] ⟨[],[86],[20,55],[],[],[],[],false,false,false,[],[],false⟩ Tryz.func86 (by kernel_rfl) (by decide)
theorem o80:FnS E (N0 p) 80 a3G:=fnS [0,2,3,5,6,8,9,10,11,25,26,27] ⟨[],[125],[],[38],[],[],[],false,true,false,[],[],false⟩ Tryz.func87 (by kernel_rfl) (by decide)
theorem o81:FnS E (N0 p) 81 a8u:=fnS [0,1,2] {} Tryz.func42 (by kernel_rfl) (by decide)
theorem o82:FnS E (N0 p) 82 b0k:=fnS [0,1,2,3,4,5,6] {} Tryz.func43 (by kernel_rfl) (by decide)
theorem o83:FnS E (N0 p) 83 a4D:=fnS [0,1,4] ⟨[],[92],[],[45],[],[],[],false,false,false,[],[],false⟩ Tryz.func44 (by kernel_rfl) (by decide)
theorem o86:FnS E (N0 p) 86 a8c:=fnS [0,1,5,7,8,9,10,18,19,20] {} Tryz.func97 (by kernel_rfl) (by decide)
theorem o87:FnS E (N0 p) 87 a8d:=fnS [0,1,2,7,9,11,13,14,15,16,21,22,23,31,32,33,38,39,40] ⟨[],[97,98],[],[],[],[],[],false,false,false,[],[],false⟩ Tryz.func98 (by kernel_rfl) (by decide)
theorem o88:FnS E (N0 p) 88 a7s:=c4C [0,1,2,5] ⟨[1],[42],[],[],[],[],[(#[6],188,[1])],false,false,false,[],[],false⟩ [#[6]] Tryz.func99 (by kernel_rfl) (by decide) (by decide) ⟨⟨0,rfl,rfl⟩,trivial⟩
theorem o89:FnS E (N0 p) 89 a3U:=fnS [0,1] ⟨[0],[55],[],[],[55],[],[],false,false,false,[],[],false⟩ Tryz.func101 (by kernel_rfl) (by decide)
theorem o90:FnS E (N0 p) 90 a3V:=fnS [0,1,2,7,9,10,11,12,47,48,49] ⟨[0],[55,101],[],[],[55,101],[],[],false,false,false,[],[],false⟩ Tryz.func102 (by kernel_rfl) (by decide)
theorem o91:FnS E (N0 p) 91 a1x:=fnS [0,1,3,5,19,20,21] ⟨[0],[55,101,105],[],[],[55,101,105],[],[],false,false,false,[],[],false⟩ Tryz.func103 (by kernel_rfl) (by decide)
theorem o92:FnS E (N0 p) 92 a1N:=fnS [0,1,2,4,7,9,11,29,30,31,72,73,74,83,84,85] ⟨[0],[55,101,102,103,104,141],[],[],[55,101,102,103,104,141],[],[],false,false,false,[],[],false⟩ Tryz.func104 (by kernel_rfl) (by decide)
theorem o93:FnS E (N0 p) 93 a2K:=fnS [0,1] ⟨[0],[55],[],[],[55],[],[],false,false,false,[],[],false⟩ Tryz.func105 (by kernel_rfl) (by decide)
theorem o94:FnS E (N0 p) 94 a5K:=c4C [0,1,2,3,4,5,14] ⟨[2,4],[42],[],[],[],[],[(#[15],189,[2,4])],false,false,false,[],[],false⟩ [#[15]] Tryz.func106 (by kernel_rfl) (by decide) (by decide) ⟨⟨0,rfl,rfl⟩,trivial⟩
theorem o95:FnS E (N0 p) 95 a6H:=fnS [0,1,2,4,5,6] {} Tryz.func107 (by kernel_rfl) (by decide)
theorem o96:FnS E (N0 p) 96 a3W:=fnS [0,1,4,5,6] {} Tryz.func108 (by kernel_rfl) (by decide)
theorem o97:FnS E (N0 p) 97 a1z:=fnS [0,1,4] ⟨[0],[],[],[],[],[],[],false,false,false,[],[],false⟩ Tryz.func109 (by kernel_rfl) (by decide)
theorem o98:FnS E (N0 p) 98 a0R:=fnS [0,1,4] ⟨[0],[],[],[],[],[],[],false,false,false,[],[],false⟩ Tryz.func110 (by kernel_rfl) (by decide)
theorem o99:FnS E (N0 p) 99 a1h:=c4C [0,1,2,3,4,5,6,7,8,9,12] ⟨[0,2,5,6,7,9],[42],[],[],[],[],[(#[13],190,[5,6,7,9])],false,false,false,[],[],false⟩ [#[13]] Tryz.func111 (by kernel_rfl) (by decide) (by decide) ⟨⟨0,rfl,rfl⟩,trivial⟩
theorem d1K:FnS E (N0 p) 100 a1r:=fnS [0,1,4] ⟨[],[145],[],[],[],[],[],false,false,false,[],[],false⟩ Tryz.func112 (by kernel_rfl) (by decide)
theorem d1L:FnS E (N0 p) 101 a3v:=fnS [0,1,2,3] {} Tryz.func113 (by kernel_rfl) (by decide)
theorem d1M:FnS E (N0 p) 102 a3X:=fnS [0,1,2,3,7,8,9,11,13,15,17,21,22,23,39,40,41,52,53,54,77,78,79] ⟨[0,2],[63,64,65,66,67,68,146,147],[],[],[63,65,66,67,68,146],[],[],false,false,false,[],[],false⟩ Tryz.func114 (by kernel_rfl) (by decide)
theorem d1N:FnS E (N0 p) 103 a45:=fnS [0,1,3,4] {} Tryz.func115 (by kernel_rfl) (by decide)
theorem d1O:FnS E (N0 p) 110 a2m:=fnS [0,1,4] ⟨[],[122],[],[42],[],[],[],false,false,false,[],[],false⟩ Tryz.func82 (by kernel_rfl) (by decide)
theorem d1P:FnS E (N0 p) 111 a2T:=fnS [0,1,4,5,7,8] ⟨[],[],[11],[],[],[],[],false,false,false,[],[],false⟩ Tryz.func123 (by kernel_rfl) (by decide)
theorem d1Q:FnS E (N0 p) 112 a3k:=fnS [0,2,3,5,6,8,9,10,11,25,26,27] ⟨[],[159],[],[138],[],[],[],false,true,false,[],[],false⟩ Tryz.func124 (by kernel_rfl) (by decide)
theorem d1R:FnS E (N0 p) 113 a4e:=fnS [0,1,4] ⟨[],[],[],[38],[],[],[],false,false,true,[],[],false⟩ Tryz.func125 (by kernel_rfl) (by decide)
theorem d1S:FnS E (N0 p) 114 a48:=fnS [0,1] ⟨[],[89],[],[],[89],[],[],false,false,false,[],[],false⟩ Tryz.func88 (by kernel_rfl) (by decide)
theorem d1T:FnS E (N0 p) 115 a2U:=fnS [0,1,4,5,7,8] ⟨[],[],[11],[],[],[],[],false,false,false,[],[],false⟩ Tryz.func90 (by kernel_rfl) (by decide)
theorem d1U:FnS E (N0 p) 116 a8e:=fnS [0,1,2,3] {} Tryz.func91 (by kernel_rfl) (by decide)
theorem d1V:FnS E (N0 p) 117 a5L:=fnS [0,1,4,5,7,8] ⟨[],[],[],[45],[],[],[],false,false,false,[],[],false⟩ Tryz.func92 (by kernel_rfl) (by decide)
theorem d1W:FnS E (N0 p) 118 a3w:=fnS [0,2,3,22,23] {} Tryz.func138 (by kernel_rfl) (by decide)
theorem d1X:FnS E (N0 p) 119 a4G:=fnS [0,1,4,5,7] {} Tryz.func139 (by kernel_rfl) (by decide)
theorem d1Y:FnS E (N0 p) 120 a5t:=fnS [0,1,2,6] {} Tryz.func140 (by kernel_rfl) (by decide)
theorem d1Z:FnS E (N0 p) 121 a2n:=fnS [0,1,2,3,9,10,11,12] ⟨[0],[55,105],[],[],[55,105],[],[],false,false,false,[],[],false⟩ Tryz.func141 (by kernel_rfl) (by decide)
theorem d10:FnS E (N0 p) 122 a4H:=c4C [0,1,2,14] ⟨[2],[42],[],[],[],[],[(#[15],191,[2])],false,false,false,[],[],false⟩ [#[15]] Tryz.func142 (by kernel_rfl) (by decide) (by decide) ⟨⟨0,rfl,rfl⟩,trivial⟩
theorem d11:FnS E (N0 p) 123 a1f:=fnS [0,1,3,4,5,11,12] {} Tryz.func143 (by kernel_rfl) (by decide)
theorem d12:FnS E (N0 p) 124 a1s:=fnS [0,1,2,3,6,8,9] ⟨[0],[63],[],[],[63],[],[],false,false,false,[],[],false⟩ Tryz.func144 (by kernel_rfl) (by decide)
theorem d13:FnS E (N0 p) 125 a1a:=fnS [0,1,4,5,7,8] ⟨[],[],[11],[],[],[],[],false,false,false,[],[],false⟩ Tryz.func145 (by kernel_rfl) (by decide)
theorem d14:FnS E (N0 p) 126 a1D:=fnS [0,1,2,3,9,10,11,12] ⟨[0,2],[111],[],[],[111],[],[],false,false,false,[],[],false⟩ Tryz.func146 (by kernel_rfl) (by decide)
theorem d15:FnS E (N0 p) 127 a0X:=fnS [0,1,4,5,6,7] ⟨[],[179],[26],[42],[],[],[],false,false,true,[],[],false⟩ Tryz.func147 (by kernel_rfl) (by decide)
theorem d16:FnS E (N0 p) 128 a2g:=fnS [0,1,3] {} Tryz.func148 (by kernel_rfl) (by decide)
theorem d17:FnS E (N0 p) 129 a1E:=fnS [0,1,4] ⟨[],[179],[],[],[],[],[],false,false,false,[],[],false⟩ Tryz.func149 (by kernel_rfl) (by decide)
theorem d18:FnS E (N0 p) 130 a5v:=fnS [0,1,3] {} Tryz.func150 (by kernel_rfl) (by decide)
theorem d19:FnS E (N0 p) 139 a12:=fnS [0,1,4,5,7,8] ⟨[],[],[],[42],[],[],[],false,false,false,[],[],false⟩ Tryz.func122 (by kernel_rfl) (by decide)
theorem d2a:FnS E (N0 p) 140 a3Y:=fnS [0,1,4] ⟨[],[],[],[138],[],[],[],false,false,true,[],[],false⟩ Tryz.func159 (by kernel_rfl) (by decide)
theorem d2b:FnS E (N0 p) 141 a16:=fnS [0,1,2,4,6,12,13,14] ⟨[],[89],[7],[],[89],[7],[],false,false,false,[],[],false⟩ Tryz.func89 (by kernel_rfl) (by decide)
theorem d2c:FnS E (N0 p) 142 a7x:=fnS [0,2] {} Tryz.func170 (by kernel_rfl) (by decide)
theorem d2d:FnS E (N0 p) 143 a6I:=fnS [0,2,3,4] {} Tryz.func171 (by kernel_rfl) (by decide)
theorem d2e:FnS E (N0 p) 144 a6J:=fnS [0,2] {} Tryz.func172 (by kernel_rfl) (by decide)
theorem d2f:FnS E (N0 p) 145 a4I:=fnS [0,1,4,5] {} Tryz.func173 (by kernel_rfl) (by decide)
theorem d2g:FnS E (N0 p) 146 b1y:=fnS [0,2] {} Tryz.func174 (by kernel_rfl) (by decide)
theorem d2h:FnS E (N0 p) 147 a4U:=c4C [0,1,2,5] ⟨[2],[42],[],[],[],[],[(#[6],192,[2])],false,false,false,[],[],false⟩ [#[6]] Tryz.func175 (by kernel_rfl) (by decide) (by decide) ⟨⟨0,rfl,rfl⟩,trivial⟩
theorem d2i:FnS E (N0 p) 148 a8v:=c4C [0,1,2,3,5] ⟨[3],[42],[],[],[],[],[(#[6],193,[3])],false,false,false,[],[],false⟩ [#[6]] Tryz.func176 (by kernel_rfl) (by decide) (by decide) ⟨⟨0,rfl,rfl⟩,trivial⟩
theorem d2j:FnS E (N0 p) 149 a7y:=fnS [0,1,2,3,5,7,8,9] {} Tryz.func177 (by kernel_rfl) (by decide)
theorem d2k:FnS E (N0 p) 150 a01:=fnS [0,1,2,3,4,5] {} Tryz.func178 (by kernel_rfl) (by decide)
theorem d2l:FnS E (N0 p) 151 a0L:=fnS [0,1,4,5,7,8] ⟨[],[],[11],[42],[],[],[],false,false,false,[],[],false⟩ Tryz.func179 (by kernel_rfl) (by decide)
theorem d2m:FnS E (N0 p) 162 a8w:=fnS [0,2] {} Tryz.func195 (by kernel_rfl) (by decide)
theorem d2n:FnS E (N0 p) 163 a0O:=fnS [0,1,2,3,4,5,18,77] {} Tryz.func196 (by kernel_rfl) (by decide)
theorem d2o:FnS E (N0 p) 164 a1G:=fnS [0,2,3,4,5,6,7,8,9,10,11,12,13] {} Tryz.func197 (by kernel_rfl) (by decide)
theorem d2p:FnS E (N0 p) 169 a5d:=fnS [0,1,4] {} Tryz.func204 (by kernel_rfl) (by decide)
theorem d2q:FnS E (N0 p) 170 a3Z:=fnS [0,2] {} Tryz.func205 (by kernel_rfl) (by decide)
theorem d2r:FnS E (N0 p) 171 a2V:=fnS [0,1,4] {} Tryz.func206 (by kernel_rfl) (by decide)
theorem d2s:FnS E (N0 p) 172 a49:=fnS [0,1,4,5,6] {} Tryz.func207 (by kernel_rfl) (by decide)
theorem d2t:FnS E (N0 p) 173 a3x:=fnS [0,1,4,5] {} Tryz.func208 (by kernel_rfl) (by decide)
theorem d2u:FnS E (N0 p) 174 a5w:=fnS [0,2,3,4,5,7,8] {} Tryz.func209 (by kernel_rfl) (by decide)
theorem d2v:FnS E (N0 p) 175 a30:=fnS [0,1,2] {} Tryz.func210 (by kernel_rfl) (by decide)
theorem d2w:FnS E (N0 p) 179 a1m:=fnS [0,1,4,5,6,7] {} Tryz.func214 (by kernel_rfl) (by decide)
theorem d2x:FnS E (N0 p) 180 a0Q:=fnS [0,1,4,5] {} Tryz.func215 (by kernel_rfl) (by decide)
theorem d2y:FnS E (N0 p) 181 a1b:=fnS [0,1,4,5,6,7,8,9,10,11,12,13] {} Tryz.func216 (by kernel_rfl) (by decide)
theorem d2z:FnS E (N0 p) 182 a0F:=fnS [0,1,4] {} Tryz.func217 (by kernel_rfl) (by decide)
theorem d2A:FnS E (N0 p) 184 a3a:=fnS [0,2] {} Tryz.func220 (by kernel_rfl) (by decide)
theorem d2B:FnS E (N0 p) 185 a1t:=fnS [0,1,4,5,6,7,8,9,10] {} Tryz.func221 (by kernel_rfl) (by decide)
theorem d2C:FnS E (N0 p) 186 a13:=fnS [0,2,3,4,5,6,7,8] {} Tryz.func223 (by kernel_rfl) (by decide)
theorem d2D:FnS E (N0 p) 187 a6k:=rdS [1,2] [1,2,9,4,5,6] ⟨[1,2],[44],[],[45],[],[],[],false,false,false,[],[],false⟩ 0 #[9] rfl Tryz.func41 (by kernel_rfl) (by kernel_rfl) (by decide)
theorem d2E:FnS E (N0 p) 188 a6l:=rdS [1] [1,6,3,8,12] ⟨[1],[],[],[],[],[],[],false,false,false,[],[],false⟩ 0 #[6] rfl Tryz.func99 (by kernel_rfl) (by kernel_rfl) (by decide)
theorem d2F:FnS E (N0 p) 189 a4s:=rdS [2,4] [2,4,15,6,7] ⟨[2,4],[],[],[],[],[],[],false,false,false,[],[],false⟩ 0 #[15] rfl Tryz.func106 (by kernel_rfl) (by kernel_rfl) (by decide)
theorem d2G:FnS E (N0 p) 190 a0D:=rdS [5,6,7,9] [5,6,7,9,13,10,15,16] ⟨[5,6,7,9],[63,109,144],[],[],[63,144],[],[],false,false,false,[],[109],false⟩ 0 #[13] rfl Tryz.func111 (by kernel_rfl) (by kernel_rfl) (by decide)
theorem d2H:FnS E (N0 p) 191 a4t:=rdS [2] [2,15,3,4] ⟨[2],[],[],[],[],[],[],false,false,false,[],[],false⟩ 0 #[15] rfl Tryz.func142 (by kernel_rfl) (by kernel_rfl) (by decide)
theorem d2I:FnS E (N0 p) 192 a0Z:=rdS [2] [2,6,3,8,9] ⟨[2],[],[],[],[],[],[],false,false,false,[],[],false⟩ 0 #[6] rfl Tryz.func175 (by kernel_rfl) (by kernel_rfl) (by decide)
theorem d2J:FnS E (N0 p) 193 a6K:=rdS [3] [3,6] ⟨[3],[],[],[],[],[],[],false,false,false,[],[],false⟩ 0 #[6] rfl Tryz.func176 (by kernel_rfl) (by kernel_rfl) (by decide)
theorem d0G (h39:b1b (N0 p) Tryz.prog 39 a8N) (h44:b1b (N0 p) Tryz.prog 44 c0A) (h183:b1b (N0 p) Tryz.prog 183 a7K) (h27:b4f (N0 p) Tryz.prog 27 (b7E 1)) (h48:b4f (N0 p) Tryz.prog 48 (b7E 2)):∀k pf,LS k=some pf→FnS E (N0 p) k pf:=by
 have all:AllFn E (N0 p) 0 LSt:=⟨o4,o6,o7,o8,o11,o13,o14,o17,o19,o23,o25,o26,.inl ⟨rfl,rfl,by decide,.inr (.inr ⟨_,Tryz.f30,rfl,rfl,rfl,Tryz.func30,by decide,by kernel_rfl,h27⟩)⟩,o28,o29,o33,o34,o35,o37,o38,.inl ⟨rfl,rfl,by decide,.inr (.inl ⟨_,Tryz.f45,rfl,rfl,Tryz.func45,by decide,by kernel_rfl,h39⟩)⟩,o43,.inl ⟨rfl,rfl,by decide,.inr (.inl ⟨_,Tryz.f50,rfl,rfl,Tryz.func50,by decide,by kernel_rfl,h44⟩)⟩,.inl ⟨rfl,rfl,by decide,.inr (.inr ⟨_,Tryz.f54,rfl,rfl,rfl,Tryz.func54,by decide,by kernel_rfl,h48⟩)⟩,o49,o50,o51,o52,o53,o54,o55,o56,o57,o58,o59,o60,o61,o62,o63,o74,o75,o76,o77,o79,o80,o81,o82,o83,o86,o87,o88,o89,o90,o91,o92,o93,o94,o95,o96,o97,o98,o99,d1K,d1L,d1M,d1N,d1O,d1P,d1Q,d1R,d1S,d1T,d1U,d1V,d1W,d1X,d1Y,d1Z,d10,d11,d12,d13,d14,d15,d16,d17,d18,d19,d2a,d2b,d2c,d2d,d2e,d2f,d2g,d2h,d2i,d2j,d2k,d2l,d2m,d2n,d2o,d2p,d2q,d2r,d2s,d2t,d2u,d2v,d2w,d2x,d2y,d2z,.inl ⟨rfl,rfl,by decide,.inr (.inl ⟨_,Tryz.f218,rfl,rfl,Tryz.func218,by decide,by kernel_rfl,h183⟩)⟩,d2A,d2B,d2C,d2D,d2E,d2F,d2G,d2H,d2I,d2J,trivial⟩
 intro k pf h
 have:=all.get (k:=k) (f:=pf) h
 rwa [Nat.zero_add] at this
end
end Go.Proofs.YtljbhgpanekomaaGreatDoor.Pi
