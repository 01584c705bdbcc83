import Derived.Test.YtljbhgpanekomaaGreatDoorChecked
import Derived.Test.YtljbhgpanekomaaGreatDoorPiLaw2
import Derived.Test.YtljbhgpanekomaaGreatDoorPiStand
import Derived.Test.YtljbhgpanekomaaGreatDoorPiScCode
import Derived.KernelRfl
set_option maxRecDepth 100000
set_option linter.unusedSectionVars false
namespace Go.Proofs.YtljbhgpanekomaaGreatDoor.Pi
open Go PI PI.Sc
def tab:List Nat:=[3,4,5,6,7,8,9,10,11,12,13,14,15,16,17,18,19,20,21,22,23,24,25,26,27,28,29,30,31,32,33,34,35,36,37,38,39,40,41,45,46,47,48,49,50,51,52,53,54,55,56,57,58,59,60,61,62,63,64,65,66,67,68,69,70,71,72,73,74,75,76,77,78,79,80,81,83,84,85,86,87,42,43,44,95,96,97,98,99,101,102,103,104,105,106,107,108,109,110,111,112,113,114,115,116,117,118,119,120,121,82,123,124,125,88,90,91,92,138,139,140,141,142,143,144,145,146,147,148,149,150,151,152,153,154,155,156,157,158,122,159,89,170,171,172,173,174,175,176,177,178,179,180,181,182,183,184,185,186,187,188,189,195,196,197,198,199,200,201,204,205,206,207,208,209,210,211,212,213,214,215,216,217,218,220,221,223,1000000,1000000,1000000,1000000,1000000,1000000,1000000]
def J6:List Nat:=[3,4,5,6,7,8,9,10,11,12,13,14,15,16,17,18,19,20,21,22,23,24,25,26,27,28,29,30,31,32,33,34,35,36,37,38,39,40,41,45,46,47,48,49,50,51,52,53,54,55,56,57,58,59,60,61,62,63,64,65,66,67,68,69,70,71,72,73,74,75,76,77,78,79,80,81,83,84,85,86,87,42,43,44,95,96,97,98,99,101,102,103,104,105,106,107,108,109,110,111,112,113,114,115,116,117,118,119,120,121,82,123,124,125,88,90,91,92,138,139,140,141,142,143,144,145,146,147,148,149,150,151,152,153,154,155,156,157,158,122,159,89,170,171,172,173,174,175,176,177,178,179,180,181,182,183,184,185,186,187,188,189,195,196,197,198,199,200,201,204,205,206,207,208,209,210,211,212,213,214,215,216,217,218,220,221,223,41,99,106,111,142,175,176]
noncomputable def yl:Nat→Option YL
 | 187=>yOf Tryz.f41 41 0 [1,2]
 | 188=>yOf Tryz.f99 99 0 [1]
 | 189=>yOf Tryz.f106 106 0 [2,4]
 | 190=>yOf Tryz.f111 111 0 [5,6,7,9]
 | 191=>yOf Tryz.f142 142 0 [2]
 | 192=>yOf Tryz.f175 175 0 [2]
 | 193=>yOf Tryz.f176 176 0 [3]
 | _=>none
noncomputable def E:Env:={ P:=Tryz.prog,inv:=λf=>if f<1000000 then xH f tab 0 else none,tinv:=λ_=>none,bT:=none,pt:=[63,100] }
structure Ps where
 tabs:List (Nat×Nat×Value)
 rows:List (Nat×TypeId×Nat)
 errT:Nat
noncomputable def N0 (p:Ps):Nm:={ fn:=λk=>J6.getD k 0,ty:=λt=>if t=0 then p.errT else([63,100]:List Nat).getD (t - 1) 0,tabs:=p.tabs,rows:=p.rows,bT:=0,bE:=5,yl:=yl }
theorem d1P:(List.range 194).all (λk=>decide (1000000≤tab.getD k 0)||tab.getD k 0==J6.getD k 0)=true:=by kernel_rfl
theorem d1Q:(List.range 194).all (λk=>decide (1000000≤tab.getD k 0) || !([187,188,189,190,191,192,193]:List Nat).contains k)=true:=by kernel_rfl
theorem Ov {f k:Nat} (h:E.inv f=some k):f<1000000∧tab[k]? = some f:=by
 have h:(if f<1000000 then xH f tab 0 else none)=some k:=h
 split at h
 ·obtain⟨_,h2⟩:=BP h
  exact⟨by assumption,by simpa using h2⟩
 ·simp at h
theorem IE (p:Ps):EnvOk E (N0 p):=⟨λf k h=>by
 obtain⟨h5,h2⟩:=Ov h
 have hk:k<194:=(aj.1 h2).1
 have h3:=aG.1 d1P k (by simpa using hk)
 have h4:tab.getD k 0=f:=by rw[cF,h2]; rfl
 rw[h4] at h3
 show J6.getD k 0=f
 simp only[bu,an,bm] at h3
 rcases h3 with h3|h3
 ·omega
 ·exact h3.symm,λf k h=>by
 obtain⟨h5,h2⟩:=Ov h
 have hk:k<194:=(aj.1 h2).1
 have h3:=aG.1 d1Q k (by simpa using hk)
 have h4:tab.getD k 0=f:=by rw[cF,h2]; rfl
 rw[h4] at h3
 simp only[bu,an,bF,List.contains_eq_mem,bZ] at h3
 rcases h3 with h3|h3
 ·omega
 ·show yl k=none
  unfold yl
  split<;>first | rfl | (exfalso; apply h3; decide),λT i h=>by
 obtain⟨_,h2⟩:=BP (show xH T [63,100] 0=some i from h)
 show (if i+1=0 then p.errT else([63,100]:List Nat).getD (i+1 - 1) 0)=T
 rw[ae (by omega),cF,show ([63,100]:List Nat)[i+1 - 1]? = some T by simpa using h2]; rfl,λt h=>by
 simp[E] at h⟩
theorem mixed:Tryz.prog.follows .mixedOrders=true:=by kernel_rfl
section
variable {p:Ps}
theorem o3:FnS E (N0 p) 3 Ey:=fnS [0,1,2,3,4,5,6,7,8,9,10,11,12] {} Tryz.func6 (by kernel_rfl) (by decide)
theorem o6:FnS E (N0 p) 6 IF:=fnS [0,1,2] {} Tryz.func9 (by kernel_rfl) (by decide)
theorem o7:FnS E (N0 p) 7 Mm:=fnS [0,1,2,3,4,5,6] {} Tryz.func10 (by kernel_rfl) (by decide)
theorem o8:FnS E (N0 p) 8 F3:=fnS [0,1,2,3,4,5,6,7,8,10,11,26,28,29,30,42,43,44,57,58] ⟨[2,3,6,26],[31,32],[],[],[31,32],[],[],false,false,false,[],[],false⟩ Tryz.func11 (by kernel_rfl) (by decide)
theorem o11:FnS E (N0 p) 11 F9:=fnS [0,1,2,3,4,5,14,15,16] ⟨[],[36],[],[34],[],[],[],false,false,false,[],[],false⟩ Tryz.func14 (by kernel_rfl) (by decide)
theorem o13:FnS E (N0 p) 13 Ms:=fnS [0,1,4,5] {} Tryz.func16 (by kernel_rfl) (by decide)
theorem o14:FnS E (N0 p) 14 II:=fnS [0,1,2] ⟨[],[],[],[],[],[],[],false,true,false,[],[],false⟩ Tryz.func17 (by kernel_rfl) (by decide)
theorem o17:FnS E (N0 p) 17 DA:=fnS [0,1,2,4,5] ⟨[2,5],[40,45],[],[45],[],[],[],false,false,false,[],[],false⟩ Tryz.func20 (by kernel_rfl) (by decide)
theorem o19:FnS E (N0 p) 19 Mt:=fnS [0,1,2,4,5,6,7] ⟨[],[49],[],[],[],[],[],false,false,false,[],[],false⟩ Tryz.func22 (by kernel_rfl) (by decide)
theorem o21:FnS E (N0 p) 21 IJ:=fnS [0,1,4,5] {} Tryz.func24 (by kernel_rfl) (by decide)
theorem o23:FnS E (N0 p) 23 IK:=fnS [0,1,2,3,4,6,7,8,14,28,29,30,39,40,41] ⟨[2,3,4,14],[55,56,57],[],[],[55,56,57],[],[],false,false,false,[],[],false⟩ Tryz.func26 (by kernel_rfl) (by decide)
theorem o25:FnS E (N0 p) 25 IL:=fnS [0,1,2,4,5,6,7,8] {} Tryz.func28 (by kernel_rfl) (by decide)
theorem o26:FnS E (N0 p) 26 Mv:=fnS [0,2] {} Tryz.func29 (by kernel_rfl) (by decide)
theorem o28:FnS E (N0 p) 28 Ga:=fnS [0,1,2,4,7] ⟨[0],[63],[],[],[63],[],[],false,false,false,[],[],false⟩ Tryz.func31 (by kernel_rfl) (by decide)
theorem o29:FnS E (N0 p) 29 Dx:=fnS [0,1,4,5,7,8,9,11,13,49,50,51,63,64,65,86,87,88,121,122,123] ⟨[0,4,5],[31,63,64,65,66,67,68,69],[],[],[31,63,65,66,67,68,69],[],[],false,false,false,[],[],false⟩ Tryz.func32 (by kernel_rfl) (by decide)
theorem o33:FnS E (N0 p) 33 Mw:=fnS [0,2,3,5,6,8,9,10,11,25,26,27] ⟨[],[80],[],[34],[],[],[],false,true,true,[],[],false⟩ Tryz.func36 (by kernel_rfl) (by decide)
theorem o34:FnS E (N0 p) 34 Gb:=fnS [0,2] {} Tryz.func37 (by kernel_rfl) (by decide)
theorem o35:FnS E (N0 p) 35 Q0:=fnS [0,1,2,3,6,7,9,11,13,14,16,18,19,20,25,26,27,36,37,38,54,55,56] ⟨[3],[83],[31,65],[42],[],[],[],false,true,false,[],[],false⟩ Tryz.func38 (by kernel_rfl) (by decide)
theorem o37:FnS E (N0 p) 37 IP:=fnS [0,1,2,5,17,18,19] ⟨[],[86],[23],[],[],[],[],false,false,false,[],[],false⟩ Tryz.func40 (by kernel_rfl) (by decide)
theorem o38:FnS E (N0 p) 38 IQ:=C3 [0,1,2,3,8] ⟨[1,2],[42],[],[45],[],[],[(#[9],187,[1,2])],false,false,false,[],[],false⟩ [#[9]] Tryz.func41 (by kernel_rfl) (by decide) (by decide) ⟨⟨0,rfl,rfl⟩,trivial⟩
theorem o43:FnS E (N0 p) 43 MB:=fnS [0,1,2,3,5,7,9,12,13,14,22,23,24,33,34,35] ⟨[3],[40,97,98],[],[],[],[],[],false,false,false,[],[],false⟩ Tryz.func49 (by kernel_rfl) (by decide)
theorem o49:FnS E (N0 p) 49 Gd:=fnS [0,1,2] ⟨[0],[],[],[],[],[],[],false,false,false,[],[],false⟩ Tryz.func55 (by kernel_rfl) (by decide)
theorem o50:FnS E (N0 p) 50 DC:=fnS [0,1,3,5,23,24,25] ⟨[0],[55,101],[],[],[55,101],[],[],false,false,false,[],[],false⟩ Tryz.func56 (by kernel_rfl) (by decide)
theorem o51:FnS E (N0 p) 51 IS:=fnS [0,1,2,5,6,7,9,11,13,80,81,82,101,102,103,112,113,114,128,129,130] ⟨[0],[55,101,102,103,104,105],[],[],[55,101,102,103,104,105],[],[],false,false,false,[],[],false⟩ Tryz.func57 (by kernel_rfl) (by decide)
theorem o52:FnS E (N0 p) 52 IT:=fnS [0,1,4,5,6] {} Tryz.func58 (by kernel_rfl) (by decide)
theorem o53:FnS E (N0 p) 53 IU:=fnS [0,1,4,5,6] {} Tryz.func59 (by kernel_rfl) (by decide)
theorem o54:FnS E (N0 p) 54 IV:=fnS [0,1,4,5,6] {} Tryz.func60 (by kernel_rfl) (by decide)
theorem o55:FnS E (N0 p) 55 IW:=fnS [0,1,4,5,6,7,8] {} Tryz.func61 (by kernel_rfl) (by decide)
theorem o56:FnS E (N0 p) 56 MC:=fnS [0,2] {} Tryz.func62 (by kernel_rfl) (by decide)
theorem o57:FnS E (N0 p) 57 Ge:=fnS [0,1,2] ⟨[0],[],[],[],[],[],[],false,false,false,[],[],false⟩ Tryz.func63 (by kernel_rfl) (by decide)
theorem o58:FnS E (N0 p) 58 Eu:=fnS [0,2,7] ⟨[0,2,7],[],[],[],[],[],[],false,false,false,[],[],false⟩ Tryz.func64 (by kernel_rfl) (by decide)
theorem o59:FnS E (N0 p) 59 Gf:=fnS [0,1,2,7,9,10,11,12] ⟨[0,1],[63,109],[],[],[63],[],[],false,false,false,[],[],false⟩ Tryz.func65 (by kernel_rfl) (by decide)
theorem o60:FnS E (N0 p) 60 Gg:=fnS [0,1,2,7,9,10,11,12,17,18,19] ⟨[0,1],[63,109],[],[],[63],[],[],false,false,false,[],[],false⟩ Tryz.func66 (by kernel_rfl) (by decide)
theorem o61:FnS E (N0 p) 61 DD:=fnS [0,1,2,3,7,9,11,12,13] ⟨[0,2],[63,109,110,111],[],[42],[63,111],[],[],false,false,false,[],[],false⟩ Tryz.func67 (by kernel_rfl) (by decide)
theorem o62:FnS E (N0 p) 62 I1:=fnS [0,1,2,3,7,8,9,10,11,12,13,14,16,18,19,20,36,37,38,61,62,63] ⟨[0,2],[63,114],[],[42],[63,114],[],[],false,false,false,[],[],false⟩ Tryz.func68 (by kernel_rfl) (by decide)
theorem o63:FnS E (N0 p) 63 Dw:=fnS [0,1,2,3,8,10,12,15,16,17,28,29,30] ⟨[0,8],[36,64,111],[],[34],[111],[],[],false,false,false,[],[],false⟩ Tryz.func69 (by kernel_rfl) (by decide)
theorem o74:FnS E (N0 p) 74 ME:=fnS [0,1,4] ⟨[],[],[],[34],[],[],[],false,false,true,[],[],false⟩ Tryz.func80 (by kernel_rfl) (by decide)
theorem o75:FnS E (N0 p) 75 EE:=fnS [0,1] ⟨[1],[82],[],[42],[],[],[],false,false,false,[],[],false⟩ Tryz.func81 (by kernel_rfl) (by decide)
theorem o76:FnS E (N0 p) 76 I2:=fnS [0,1,4] ⟨[],[123],[],[],[],[],[],false,false,false,[],[],false⟩ Tryz.func83 (by kernel_rfl) (by decide)
theorem o77:FnS E (N0 p) 77 I3:=fnS [0,1,2,3] {} Tryz.func84 (by kernel_rfl) (by decide)
theorem o79:FnS E (N0 p) 79 I5:=fnS [0,1,2,7,9,11,13,14,15,16,25,26,27,32,33,34,49,50,51] ⟨[],[86],[20,55],[],[],[],[],false,false,false,[],[],false⟩ Tryz.func86 (by kernel_rfl) (by decide)
theorem o80:FnS E (N0 p) 80 MI:=fnS [0,2,3,5,6,8,9,10,11,25,26,27] ⟨[],[125],[],[38],[],[],[],false,true,false,[],[],false⟩ Tryz.func87 (by kernel_rfl) (by decide)
theorem o81:FnS E (N0 p) 81 I6:=fnS [0,1,2] {} Tryz.func42 (by kernel_rfl) (by decide)
theorem o82:FnS E (N0 p) 82 Gh:=fnS [0,1,2,3,4,5,6] {} Tryz.func43 (by kernel_rfl) (by decide)
theorem o83:FnS E (N0 p) 83 Gi:=fnS [0,1,4] ⟨[],[92],[],[45],[],[],[],false,false,false,[],[],false⟩ Tryz.func44 (by kernel_rfl) (by decide)
theorem o86:FnS E (N0 p) 86 MJ:=fnS [0,1,5,7,8,9,10,18,19,20] {} Tryz.func97 (by kernel_rfl) (by decide)
theorem o87:FnS E (N0 p) 87 MK:=fnS [0,1,2,7,9,11,13,14,15,16,21,22,23,31,32,33,38,39,40] ⟨[],[97,98],[],[],[],[],[],false,false,false,[],[],false⟩ Tryz.func98 (by kernel_rfl) (by decide)
theorem o88:FnS E (N0 p) 88 ML:=C3 [0,1,2,5] ⟨[1],[42],[],[],[],[],[(#[6],188,[1])],false,false,false,[],[],false⟩ [#[6]] Tryz.func99 (by kernel_rfl) (by decide) (by decide) ⟨⟨0,rfl,rfl⟩,trivial⟩
theorem o89:FnS E (N0 p) 89 I7:=fnS [0,1] ⟨[0],[55],[],[],[55],[],[],false,false,false,[],[],false⟩ Tryz.func101 (by kernel_rfl) (by decide)
theorem o90:FnS E (N0 p) 90 I8:=fnS [0,1,2,7,9,10,11,12,47,48,49] ⟨[0],[55,101],[],[],[55,101],[],[],false,false,false,[],[],false⟩ Tryz.func102 (by kernel_rfl) (by decide)
theorem o91:FnS E (N0 p) 91 EF:=fnS [0,1,3,5,19,20,21] ⟨[0],[55,101,105],[],[],[55,101,105],[],[],false,false,false,[],[],false⟩ Tryz.func103 (by kernel_rfl) (by decide)
theorem o92:FnS E (N0 p) 92 DE:=fnS [0,1,2,4,7,9,11,29,30,31,72,73,74,83,84,85] ⟨[0],[55,101,102,103,104,141],[],[],[55,101,102,103,104,141],[],[],false,false,false,[],[],false⟩ Tryz.func104 (by kernel_rfl) (by decide)
theorem o93:FnS E (N0 p) 93 Gj:=fnS [0,1] ⟨[0],[55],[],[],[55],[],[],false,false,false,[],[],false⟩ Tryz.func105 (by kernel_rfl) (by decide)
theorem o94:FnS E (N0 p) 94 Gk:=C3 [0,1,2,3,4,5,14] ⟨[2,4],[42],[],[],[],[],[(#[15],189,[2,4])],false,false,false,[],[],false⟩ [#[15]] Tryz.func106 (by kernel_rfl) (by decide) (by decide) ⟨⟨0,rfl,rfl⟩,trivial⟩
theorem o95:FnS E (N0 p) 95 I9:=fnS [0,1,2,4,5,6] {} Tryz.func107 (by kernel_rfl) (by decide)
theorem o96:FnS E (N0 p) 96 Ja:=fnS [0,1,4,5,6] {} Tryz.func108 (by kernel_rfl) (by decide)
theorem o97:FnS E (N0 p) 97 DG:=fnS [0,1,4] ⟨[0],[],[],[],[],[],[],false,false,false,[],[],false⟩ Tryz.func109 (by kernel_rfl) (by decide)
theorem o98:FnS E (N0 p) 98 CO:=fnS [0,1,4] ⟨[0],[],[],[],[],[],[],false,false,false,[],[],false⟩ Tryz.func110 (by kernel_rfl) (by decide)
theorem o99:FnS E (N0 p) 99 EI:=C3 [0,1,2,3,4,5,6,7,8,9,12] ⟨[0,2,5,6,7,9],[42],[],[],[],[],[(#[13],190,[5,6,7,9])],false,false,false,[],[],false⟩ [#[13]] Tryz.func111 (by kernel_rfl) (by decide) (by decide) ⟨⟨0,rfl,rfl⟩,trivial⟩
theorem d2U:FnS E (N0 p) 100 Jb:=fnS [0,1,4] ⟨[],[145],[],[],[],[],[],false,false,false,[],[],false⟩ Tryz.func112 (by kernel_rfl) (by decide)
theorem d2V:FnS E (N0 p) 101 Jc:=fnS [0,1,2,3] {} Tryz.func113 (by kernel_rfl) (by decide)
theorem d2W:FnS E (N0 p) 102 Jh:=fnS [0,1,2,3,7,8,9,11,13,15,17,21,22,23,39,40,41,52,53,54,77,78,79] ⟨[0,2],[63,64,65,66,67,68,146,147],[],[],[63,65,66,67,68,146],[],[],false,false,false,[],[],false⟩ Tryz.func114 (by kernel_rfl) (by decide)
theorem d2X:FnS E (N0 p) 103 Gl:=fnS [0,1,3,4] {} Tryz.func115 (by kernel_rfl) (by decide)
theorem d2Y:FnS E (N0 p) 110 EJ:=fnS [0,1,4] ⟨[],[122],[],[42],[],[],[],false,false,false,[],[],false⟩ Tryz.func82 (by kernel_rfl) (by decide)
theorem d2Z:FnS E (N0 p) 111 Gm:=fnS [0,1,4,5,7,8] ⟨[],[],[11],[],[],[],[],false,false,false,[],[],false⟩ Tryz.func123 (by kernel_rfl) (by decide)
theorem d20:FnS E (N0 p) 112 MN:=fnS [0,2,3,5,6,8,9,10,11,25,26,27] ⟨[],[159],[],[138],[],[],[],false,true,false,[],[],false⟩ Tryz.func124 (by kernel_rfl) (by decide)
theorem d21:FnS E (N0 p) 113 MO:=fnS [0,1,4] ⟨[],[],[],[38],[],[],[],false,false,true,[],[],false⟩ Tryz.func125 (by kernel_rfl) (by decide)
theorem d22:FnS E (N0 p) 114 Gn:=fnS [0,1] ⟨[],[89],[],[],[89],[],[],false,false,false,[],[],false⟩ Tryz.func88 (by kernel_rfl) (by decide)
theorem d23:FnS E (N0 p) 115 Gp:=fnS [0,1,4,5,7,8] ⟨[],[],[11],[],[],[],[],false,false,false,[],[],false⟩ Tryz.func90 (by kernel_rfl) (by decide)
theorem d24:FnS E (N0 p) 116 Ji:=fnS [0,1,2,3] {} Tryz.func91 (by kernel_rfl) (by decide)
theorem d25:FnS E (N0 p) 117 DH:=fnS [0,1,4,5,7,8] ⟨[],[],[],[45],[],[],[],false,false,false,[],[],false⟩ Tryz.func92 (by kernel_rfl) (by decide)
theorem d26:FnS E (N0 p) 118 CP:=fnS [0,2,3,22,23] {} Tryz.func138 (by kernel_rfl) (by decide)
theorem d27:FnS E (N0 p) 119 EL:=fnS [0,1,4,5,7] {} Tryz.func139 (by kernel_rfl) (by decide)
theorem d28:FnS E (N0 p) 120 EM:=fnS [0,1,2,6] {} Tryz.func140 (by kernel_rfl) (by decide)
theorem d29:FnS E (N0 p) 121 Jk:=fnS [0,1,2,3,9,10,11,12] ⟨[0],[55,105],[],[],[55,105],[],[],false,false,false,[],[],false⟩ Tryz.func141 (by kernel_rfl) (by decide)
theorem d3a:FnS E (N0 p) 122 EO:=C3 [0,1,2,14] ⟨[2],[42],[],[],[],[],[(#[15],191,[2])],false,false,false,[],[],false⟩ [#[15]] Tryz.func142 (by kernel_rfl) (by decide) (by decide) ⟨⟨0,rfl,rfl⟩,trivial⟩
theorem d3b:FnS E (N0 p) 123 Bu:=fnS [0,1,3,4,5,11,12] {} Tryz.func143 (by kernel_rfl) (by decide)
theorem d3c:FnS E (N0 p) 124 CQ:=fnS [0,1,2,3,6,8,9] ⟨[0],[63],[],[],[63],[],[],false,false,false,[],[],false⟩ Tryz.func144 (by kernel_rfl) (by decide)
theorem d3d:FnS E (N0 p) 125 Gq:=fnS [0,1,4,5,7,8] ⟨[],[],[11],[],[],[],[],false,false,false,[],[],false⟩ Tryz.func145 (by kernel_rfl) (by decide)
theorem d3e:FnS E (N0 p) 126 Gr:=fnS [0,1,2,3,9,10,11,12] ⟨[0,2],[111],[],[],[111],[],[],false,false,false,[],[],false⟩ Tryz.func146 (by kernel_rfl) (by decide)
theorem d3f:FnS E (N0 p) 127 EP:=fnS [0,1,4,5,6,7] ⟨[],[179],[26],[42],[],[],[],false,false,true,[],[],false⟩ Tryz.func147 (by kernel_rfl) (by decide)
theorem d3g:FnS E (N0 p) 128 Gs:=fnS [0,1,3] {} Tryz.func148 (by kernel_rfl) (by decide)
theorem d3h:FnS E (N0 p) 129 Jl:=fnS [0,1,4] ⟨[],[179],[],[],[],[],[],false,false,false,[],[],false⟩ Tryz.func149 (by kernel_rfl) (by decide)
theorem d3i:FnS E (N0 p) 130 Jm:=fnS [0,1,3] {} Tryz.func150 (by kernel_rfl) (by decide)
theorem d3j:FnS E (N0 p) 139 Ck:=fnS [0,1,4,5,7,8] ⟨[],[],[],[42],[],[],[],false,false,false,[],[],false⟩ Tryz.func122 (by kernel_rfl) (by decide)
theorem d3k:FnS E (N0 p) 140 MU:=fnS [0,1,4] ⟨[],[],[],[138],[],[],[],false,false,true,[],[],false⟩ Tryz.func159 (by kernel_rfl) (by decide)
theorem d3l:FnS E (N0 p) 141 Bv:=fnS [0,1,2,4,6,12,13,14] ⟨[],[89],[7],[],[89],[7],[],false,false,false,[],[],false⟩ Tryz.func89 (by kernel_rfl) (by decide)
theorem d3m:FnS E (N0 p) 142 Jn:=fnS [0,2] {} Tryz.func170 (by kernel_rfl) (by decide)
theorem d3n:FnS E (N0 p) 143 Jo:=fnS [0,2,3,4] {} Tryz.func171 (by kernel_rfl) (by decide)
theorem d3o:FnS E (N0 p) 144 Gu:=fnS [0,2] {} Tryz.func172 (by kernel_rfl) (by decide)
theorem d3p:FnS E (N0 p) 145 ER:=fnS [0,1,4,5] {} Tryz.func173 (by kernel_rfl) (by decide)
theorem d3q:FnS E (N0 p) 146 Jp:=fnS [0,2] {} Tryz.func174 (by kernel_rfl) (by decide)
theorem d3r:FnS E (N0 p) 147 Jq:=C3 [0,1,2,5] ⟨[2],[42],[],[],[],[],[(#[6],192,[2])],false,false,false,[],[],false⟩ [#[6]] Tryz.func175 (by kernel_rfl) (by decide) (by decide) ⟨⟨0,rfl,rfl⟩,trivial⟩
theorem d3s:FnS E (N0 p) 148 Jr:=C3 [0,1,2,3,5] ⟨[3],[42],[],[],[],[],[(#[6],193,[3])],false,false,false,[],[],false⟩ [#[6]] Tryz.func176 (by kernel_rfl) (by decide) (by decide) ⟨⟨0,rfl,rfl⟩,trivial⟩
theorem d3t:FnS E (N0 p) 149 Js:=fnS [0,1,2,3,5,7,8,9] {} Tryz.func177 (by kernel_rfl) (by decide)
theorem d3u:FnS E (N0 p) 150 zr:=fnS [0,1,2,3,4,5] {} Tryz.func178 (by kernel_rfl) (by decide)
theorem d3v:FnS E (N0 p) 151 DI:=fnS [0,1,4,5,7,8] ⟨[],[],[11],[42],[],[],[],false,false,false,[],[],false⟩ Tryz.func179 (by kernel_rfl) (by decide)
theorem d3w:FnS E (N0 p) 162 Ju:=fnS [0,2] {} Tryz.func195 (by kernel_rfl) (by decide)
theorem d3x:FnS E (N0 p) 163 yh:=fnS [0,1,2,3,4,5,18,77] {} Tryz.func196 (by kernel_rfl) (by decide)
theorem d3y:FnS E (N0 p) 164 BV:=fnS [0,2,3,4,5,6,7,8,9,10,11,12,13] {} Tryz.func197 (by kernel_rfl) (by decide)
theorem d3z:FnS E (N0 p) 169 DJ:=fnS [0,1,4] {} Tryz.func204 (by kernel_rfl) (by decide)
theorem d3A:FnS E (N0 p) 170 Gv:=fnS [0,2] {} Tryz.func205 (by kernel_rfl) (by decide)
theorem d3B:FnS E (N0 p) 171 ES:=fnS [0,1,4] {} Tryz.func206 (by kernel_rfl) (by decide)
theorem d3C:FnS E (N0 p) 172 Gw:=fnS [0,1,4,5,6] {} Tryz.func207 (by kernel_rfl) (by decide)
theorem d3D:FnS E (N0 p) 173 Jv:=fnS [0,1,4,5] {} Tryz.func208 (by kernel_rfl) (by decide)
theorem d3E:FnS E (N0 p) 174 Jw:=fnS [0,2,3,4,5,7,8] {} Tryz.func209 (by kernel_rfl) (by decide)
theorem d3F:FnS E (N0 p) 175 ET:=fnS [0,1,2] {} Tryz.func210 (by kernel_rfl) (by decide)
theorem d3G:FnS E (N0 p) 179 Gx:=fnS [0,1,4,5,6,7] {} Tryz.func214 (by kernel_rfl) (by decide)
theorem d3H:FnS E (N0 p) 180 Gy:=fnS [0,1,4,5] {} Tryz.func215 (by kernel_rfl) (by decide)
theorem d3I:FnS E (N0 p) 181 Gz:=fnS [0,1,4,5,6,7,8,9,10,11,12,13] {} Tryz.func216 (by kernel_rfl) (by decide)
theorem d3J:FnS E (N0 p) 182 EU:=fnS [0,1,4] {} Tryz.func217 (by kernel_rfl) (by decide)
theorem d3K:FnS E (N0 p) 184 MV:=fnS [0,2] {} Tryz.func220 (by kernel_rfl) (by decide)
theorem d3L:FnS E (N0 p) 185 MW:=fnS [0,1,4,5,6,7,8,9,10] {} Tryz.func221 (by kernel_rfl) (by decide)
theorem d3M:FnS E (N0 p) 186 MX:=fnS [0,2,3,4,5,6,7,8] {} Tryz.func223 (by kernel_rfl) (by decide)
theorem d3N:FnS E (N0 p) 187 CT:=rdS [1,2] [1,2,9,4,5,6] ⟨[1,2],[44],[],[45],[],[],[],false,false,false,[],[],false⟩ 0 #[9] rfl Tryz.func41 (by kernel_rfl) (by kernel_rfl) (by decide)
theorem d3O:FnS E (N0 p) 188 MY:=rdS [1] [1,6,3,8,12] ⟨[1],[],[],[],[],[],[],false,false,false,[],[],false⟩ 0 #[6] rfl Tryz.func99 (by kernel_rfl) (by kernel_rfl) (by decide)
theorem d3P:FnS E (N0 p) 189 GA:=rdS [2,4] [2,4,15,6,7] ⟨[2,4],[],[],[],[],[],[],false,false,false,[],[],false⟩ 0 #[15] rfl Tryz.func106 (by kernel_rfl) (by kernel_rfl) (by decide)
theorem d3Q:FnS E (N0 p) 190 CU:=rdS [5,6,7,9] [5,6,7,9,13,10,15,16] ⟨[5,6,7,9],[63,109,144],[],[],[63,144],[],[],false,false,false,[],[109],false⟩ 0 #[13] rfl Tryz.func111 (by kernel_rfl) (by kernel_rfl) (by decide)
theorem d3R:FnS E (N0 p) 191 GB:=rdS [2] [2,15,3,4] ⟨[2],[],[],[],[],[],[],false,false,false,[],[],false⟩ 0 #[15] rfl Tryz.func142 (by kernel_rfl) (by kernel_rfl) (by decide)
theorem d3S:FnS E (N0 p) 192 Cl:=rdS [2] [2,6,3,8,9] ⟨[2],[],[],[],[],[],[],false,false,false,[],[],false⟩ 0 #[6] rfl Tryz.func175 (by kernel_rfl) (by kernel_rfl) (by decide)
theorem d3T:FnS E (N0 p) 193 Jx:=rdS [3] [3,6] ⟨[3],[],[],[],[],[],[],false,false,false,[],[],false⟩ 0 #[6] rfl Tryz.func176 (by kernel_rfl) (by kernel_rfl) (by decide)
theorem d1R (h39:CA (N0 p) Tryz.prog 39 Ds) (h44:CA (N0 p) Tryz.prog 44 FO) (h183:CA (N0 p) Tryz.prog 183 FN) (h27:Cd (N0 p) Tryz.prog 27 (Aq 1)) (h48:Cd (N0 p) Tryz.prog 48 (Aq 2)):∀k pf,LS k=some pf→FnS E (N0 p) k pf:=by
 have all:AllFn E (N0 p) 0 LSt:=⟨o3,o6,o7,o8,o11,o13,o14,o17,o19,o21,o23,o25,o26,.inl ⟨rfl,rfl,by decide,.inr (.inr ⟨_,Tryz.f30,rfl,rfl,rfl,Tryz.func30,by decide,by kernel_rfl,h27⟩)⟩,o28,o29,o33,o34,o35,o37,o38,.inl ⟨rfl,rfl,by decide,.inr (.inl ⟨_,Tryz.f45,rfl,rfl,Tryz.func45,by decide,by kernel_rfl,h39⟩)⟩,o43,.inl ⟨rfl,rfl,by decide,.inr (.inl ⟨_,Tryz.f50,rfl,rfl,Tryz.func50,by decide,by kernel_rfl,h44⟩)⟩,.inl ⟨rfl,rfl,by decide,.inr (.inr ⟨_,Tryz.f54,rfl,rfl,rfl,Tryz.func54,by decide,by kernel_rfl,h48⟩)⟩,o49,o50,o51,o52,o53,o54,o55,o56,o57,o58,o59,o60,o61,o62,o63,o74,o75,o76,o77,o79,o80,o81,o82,o83,o86,o87,o88,o89,o90,o91,o92,o93,o94,o95,o96,o97,o98,o99,d2U,d2V,d2W,d2X,d2Y,d2Z,d20,d21,d22,d23,d24,d25,d26,d27,d28,d29,d3a,d3b,d3c,d3d,d3e,d3f,d3g,d3h,d3i,d3j,d3k,d3l,d3m,d3n,d3o,d3p,d3q,d3r,d3s,d3t,d3u,d3v,d3w,d3x,d3y,d3z,d3A,d3B,d3C,d3D,d3E,d3F,d3G,d3H,d3I,d3J,.inl ⟨rfl,rfl,by decide,.inr (.inl ⟨_,Tryz.f218,rfl,rfl,Tryz.func218,by decide,by kernel_rfl,h183⟩)⟩,d3K,d3L,d3M,d3N,d3O,d3P,d3Q,d3R,d3S,d3T,trivial⟩
 intro k pf h
 have:=all.get (k:=k) (f:=pf) h
 rwa [aR] at this
end
end Go.Proofs.YtljbhgpanekomaaGreatDoor.Pi
