import Derived.Test.YtljbhgpanekomaaGreatDoorChecked
import Derived.Test.YtljbhgpanekomaaGreatDoorPiLaw2
import Derived.Test.YtljbhgpanekomaaGreatDoorPiStand
import Derived.Test.YtljbhgpanekomaaGreatDoorPiScCode
import Derived.KernelRfl
set_option maxRecDepth 100000
set_option linter.unusedSectionVars false
namespace Go.Proofs.YtljbhgpanekomaaGreatDoor.Pi
open Go PI PI.Sc
def tab:List Nat:=[3,4,5,6,7,8,9,10,11,12,13,14,15,16,17,18,19,20,21,22,23,24,25,26,27,28,29,30,31,32,33,34,35,36,37,38,39,40,41,45,46,47,48,49,50,51,52,53,54,55,56,57,58,59,60,61,62,63,64,65,66,67,68,69,70,71,72,73,74,75,76,77,78,79,80,81,83,84,85,86,87,42,43,44,95,96,97,98,99,101,102,103,104,105,106,107,108,109,110,111,112,113,114,115,116,117,118,119,120,121,82,123,124,125,88,90,91,92,138,139,140,141,142,143,144,145,146,147,148,149,150,151,152,153,154,155,156,157,158,122,159,89,170,171,172,173,174,175,176,177,178,179,180,181,182,183,184,185,186,187,188,189,195,196,197,198,199,200,201,204,205,206,207,208,209,210,211,212,213,214,215,216,217,218,220,221,223,1000000,1000000,1000000,1000000,1000000,1000000,1000000]
def LA:List Nat:=[3,4,5,6,7,8,9,10,11,12,13,14,15,16,17,18,19,20,21,22,23,24,25,26,27,28,29,30,31,32,33,34,35,36,37,38,39,40,41,45,46,47,48,49,50,51,52,53,54,55,56,57,58,59,60,61,62,63,64,65,66,67,68,69,70,71,72,73,74,75,76,77,78,79,80,81,83,84,85,86,87,42,43,44,95,96,97,98,99,101,102,103,104,105,106,107,108,109,110,111,112,113,114,115,116,117,118,119,120,121,82,123,124,125,88,90,91,92,138,139,140,141,142,143,144,145,146,147,148,149,150,151,152,153,154,155,156,157,158,122,159,89,170,171,172,173,174,175,176,177,178,179,180,181,182,183,184,185,186,187,188,189,195,196,197,198,199,200,201,204,205,206,207,208,209,210,211,212,213,214,215,216,217,218,220,221,223,41,99,106,111,142,175,176]
noncomputable def yl:Nat→Option YL
 | 187=>yOf Tryz.f41 41 0 [1,2]
 | 188=>yOf Tryz.f99 99 0 [1]
 | 189=>yOf Tryz.f106 106 0 [2,4]
 | 190=>yOf Tryz.f111 111 0 [5,6,7,9]
 | 191=>yOf Tryz.f142 142 0 [2]
 | 192=>yOf Tryz.f175 175 0 [2]
 | 193=>yOf Tryz.f176 176 0 [3]
 | _=>none
noncomputable def E:Env:={ P:=Tryz.prog,inv:=λf=>if f<1000000 then yt f tab 0 else none,tinv:=λ_=>none,bT:=none,pt:=[63,100] }
structure Ps where
 tabs:List (Nat×Nat×Value)
 rows:List (Nat×TypeId×Nat)
 errT:Nat
noncomputable def N0 (p:Ps):Nm:={ fn:=λk=>LA.getD k 0,ty:=λt=>if t=0 then p.errT else([63,100]:List Nat).getD (t - 1) 0,tabs:=p.tabs,rows:=p.rows,bT:=0,bE:=5,yl:=yl }
theorem d3I:(List.range 194).all (λk=>decide (1000000≤tab.getD k 0)||tab.getD k 0==LA.getD k 0)=true:=by kernel_rfl
theorem d3J:(List.range 194).all (λk=>decide (1000000≤tab.getD k 0) || !([187,188,189,190,191,192,193]:List Nat).contains k)=true:=by kernel_rfl
theorem Qe {f k:Nat} (h:E.inv f=some k):f<1000000∧tab[k]? = some f:=by
 have h:(if f<1000000 then yt f tab 0 else none)=some k:=h
 split at h
 ·obtain⟨_,h2⟩:=CB h
  exact⟨by assumption,by simpa using h2⟩
 ·simp at h
theorem JE (p:Ps):EnvOk E (N0 p):=⟨λf k h=>by
 obtain⟨h5,h2⟩:=Qe h
 have hk:k<194:=(aj.1 h2).1
 have h3:=aD.1 d3I k (by simpa using hk)
 have h4:tab.getD k 0=f:=by rw[cF,h2]; rfl
 rw[h4] at h3
 show LA.getD k 0=f
 simp only[bF,ak,bl] at h3
 rcases h3 with h3|h3
 ·omega
 ·exact h3.symm,λf k h=>by
 obtain⟨h5,h2⟩:=Qe h
 have hk:k<194:=(aj.1 h2).1
 have h3:=aD.1 d3J k (by simpa using hk)
 have h4:tab.getD k 0=f:=by rw[cF,h2]; rfl
 rw[h4] at h3
 simp only[bF,ak,bj,List.contains_eq_mem,aT] at h3
 rcases h3 with h3|h3
 ·omega
 ·show yl k=none
  unfold yl
  split<;>first | rfl | (exfalso; apply h3; decide),λT i h=>by
 obtain⟨_,h2⟩:=CB (show yt T [63,100] 0=some i from h)
 show (if i+1=0 then p.errT else([63,100]:List Nat).getD (i+1 - 1) 0)=T
 rw[af (by omega),cF,show ([63,100]:List Nat)[i+1 - 1]? = some T by simpa using h2]; rfl,λt h=>by
 simp[E] at h⟩
theorem mixed:Tryz.prog.follows .mixedOrders=true:=by kernel_rfl
section
variable {p:Ps}
theorem o0:FnS E (N0 p) 0 G7:=fnS [0,1,2,3,4,5,6] {} Tryz.func3 (by kernel_rfl) (by decide)
theorem o6:FnS E (N0 p) 6 JF:=fnS [0,1,2] {} Tryz.func9 (by kernel_rfl) (by decide)
theorem o7:FnS E (N0 p) 7 NL:=fnS [0,1,2,3,4,5,6] {} Tryz.func10 (by kernel_rfl) (by decide)
theorem o8:FnS E (N0 p) 8 G5:=fnS [0,1,2,3,4,5,6,7,8,10,11,26,28,29,30,42,43,44,57,58] ⟨[2,3,6,26],[31,32],[],[],[31,32],[],[],false,false,false,[],[],false⟩ Tryz.func11 (by kernel_rfl) (by decide)
theorem o9:FnS E (N0 p) 9 G9:=fnS [0,1,2,3,4,5,6,7,8,9,10,11,12] {} Tryz.func12 (by kernel_rfl) (by decide)
theorem o11:FnS E (N0 p) 11 Ha:=fnS [0,1,2,3,4,5,14,15,16] ⟨[],[36],[],[34],[],[],[],false,false,false,[],[],false⟩ Tryz.func14 (by kernel_rfl) (by decide)
theorem o12:FnS E (N0 p) 12 JL:=fnS [0,1,2] {} Tryz.func15 (by kernel_rfl) (by decide)
theorem o13:FnS E (N0 p) 13 NP:=fnS [0,1,4,5] {} Tryz.func16 (by kernel_rfl) (by decide)
theorem o14:FnS E (N0 p) 14 NQ:=fnS [0,1,2] ⟨[],[],[],[],[],[],[],false,true,false,[],[],false⟩ Tryz.func17 (by kernel_rfl) (by decide)
theorem o17:FnS E (N0 p) 17 NS:=fnS [0,1,2,4,5] ⟨[2,5],[40,45],[],[45],[],[],[],false,false,false,[],[],false⟩ Tryz.func20 (by kernel_rfl) (by decide)
theorem o19:FnS E (N0 p) 19 NT:=fnS [0,1,2,4,5,6,7] ⟨[],[49],[],[],[],[],[],false,false,false,[],[],false⟩ Tryz.func22 (by kernel_rfl) (by decide)
theorem o21:FnS E (N0 p) 21 JM:=fnS [0,1,4,5] {} Tryz.func24 (by kernel_rfl) (by decide)
theorem o23:FnS E (N0 p) 23 JN:=fnS [0,1,2,3,4,6,7,8,14,28,29,30,39,40,41] ⟨[2,3,4,14],[55,56,57],[],[],[55,56,57],[],[],false,false,false,[],[],false⟩ Tryz.func26 (by kernel_rfl) (by decide)
theorem o25:FnS E (N0 p) 25 JO:=fnS [0,1,2,4,5,6,7,8] {} Tryz.func28 (by kernel_rfl) (by decide)
theorem o26:FnS E (N0 p) 26 NV:=fnS [0,2] {} Tryz.func29 (by kernel_rfl) (by decide)
theorem o28:FnS E (N0 p) 28 Hb:=fnS [0,1,2,4,7] ⟨[0],[63],[],[],[63],[],[],false,false,false,[],[],false⟩ Tryz.func31 (by kernel_rfl) (by decide)
theorem o29:FnS E (N0 p) 29 Ei:=fnS [0,1,4,5,7,8,9,11,13,49,50,51,63,64,65,86,87,88,121,122,123] ⟨[0,4,5],[31,63,64,65,66,67,68,69],[],[],[31,63,65,66,67,68,69],[],[],false,false,false,[],[],false⟩ Tryz.func32 (by kernel_rfl) (by decide)
theorem o30:FnS E (N0 p) 30 Fw:=fnS [0,1,2,3,4,5,6,7,8,9,10] {} Tryz.func33 (by kernel_rfl) (by decide)
theorem o31:FnS E (N0 p) 31 JP:=fnS [0,1,2,3,6,7,8,9,10,11,12,13,14,15,16,17,18,19,20,21] ⟨[12],[],[],[],[],[],[],false,false,false,[(75,none)],[],true⟩ Tryz.func34 (by kernel_rfl) (by decide)
theorem o33:FnS E (N0 p) 33 NX:=fnS [0,2,3,5,6,8,9,10,11,25,26,27] ⟨[],[80],[],[34],[],[],[],false,true,true,[],[],false⟩ Tryz.func36 (by kernel_rfl) (by decide)
theorem o34:FnS E (N0 p) 34 Hc:=fnS [0,2] {} Tryz.func37 (by kernel_rfl) (by decide)
theorem o35:FnS E (N0 p) 35 NY:=fnS [0,1,2,3,6,7,9,11,13,14,16,18,19,20,25,26,27,36,37,38,54,55,56] ⟨[3],[83],[31,65],[42],[],[],[],false,true,false,[],[],false⟩ Tryz.func38 (by kernel_rfl) (by decide)
theorem o37:FnS E (N0 p) 37 NZ:=fnS [0,1,2,5,17,18,19] ⟨[],[86],[23],[],[],[],[],false,false,false,[],[],false⟩ Tryz.func40 (by kernel_rfl) (by decide)
theorem o38:FnS E (N0 p) 38 N1:=DO [0,1,2,3,8] ⟨[1,2],[42],[],[45],[],[],[(#[9],187,[1,2])],false,false,false,[],[],false⟩ [#[9]] Tryz.func41 (by kernel_rfl) (by decide) (by decide) ⟨⟨0,rfl,rfl⟩,trivial⟩
theorem o41:FnS E (N0 p) 41 JQ:=fnS [0,1,2] ⟨[],[],[],[],[],[],[],false,false,false,[(96,some 1)],[],false⟩ Tryz.func47 (by kernel_rfl) (by decide)
theorem o43:FnS E (N0 p) 43 N2:=fnS [0,1,2,3,5,7,9,12,13,14,22,23,24,33,34,35] ⟨[3],[40,97,98],[],[],[],[],[],false,false,false,[],[],false⟩ Tryz.func49 (by kernel_rfl) (by decide)
theorem o49:FnS E (N0 p) 49 Hd:=fnS [0,1,2] ⟨[0],[],[],[],[],[],[],false,false,false,[],[],false⟩ Tryz.func55 (by kernel_rfl) (by decide)
theorem o50:FnS E (N0 p) 50 En:=fnS [0,1,3,5,23,24,25] ⟨[0],[55,101],[],[],[55,101],[],[],false,false,false,[],[],false⟩ Tryz.func56 (by kernel_rfl) (by decide)
theorem o51:FnS E (N0 p) 51 JS:=fnS [0,1,2,5,6,7,9,11,13,80,81,82,101,102,103,112,113,114,128,129,130] ⟨[0],[55,101,102,103,104,105],[],[],[55,101,102,103,104,105],[],[],false,false,false,[],[],false⟩ Tryz.func57 (by kernel_rfl) (by decide)
theorem o52:FnS E (N0 p) 52 JT:=fnS [0,1,4,5,6] {} Tryz.func58 (by kernel_rfl) (by decide)
theorem o53:FnS E (N0 p) 53 JU:=fnS [0,1,4,5,6] {} Tryz.func59 (by kernel_rfl) (by decide)
theorem o54:FnS E (N0 p) 54 JV:=fnS [0,1,4,5,6] {} Tryz.func60 (by kernel_rfl) (by decide)
theorem o55:FnS E (N0 p) 55 JW:=fnS [0,1,4,5,6,7,8] {} Tryz.func61 (by kernel_rfl) (by decide)
theorem o56:FnS E (N0 p) 56 N3:=fnS [0,2] {} Tryz.func62 (by kernel_rfl) (by decide)
theorem o57:FnS E (N0 p) 57 He:=fnS [0,1,2] ⟨[0],[],[],[],[],[],[],false,false,false,[],[],false⟩ Tryz.func63 (by kernel_rfl) (by decide)
theorem o58:FnS E (N0 p) 58 Fm:=fnS [0,2,7] ⟨[0,2,7],[],[],[],[],[],[],false,false,false,[],[],false⟩ Tryz.func64 (by kernel_rfl) (by decide)
theorem o59:FnS E (N0 p) 59 Hf:=fnS [0,1,2,7,9,10,11,12] ⟨[0,1],[63,109],[],[],[63],[],[],false,false,false,[],[],false⟩ Tryz.func65 (by kernel_rfl) (by decide)
theorem o60:FnS E (N0 p) 60 Hg:=fnS [0,1,2,7,9,10,11,12,17,18,19] ⟨[0,1],[63,109],[],[],[63],[],[],false,false,false,[],[],false⟩ Tryz.func66 (by kernel_rfl) (by decide)
theorem o61:FnS E (N0 p) 61 Eo:=fnS [0,1,2,3,7,9,11,12,13] ⟨[0,2],[63,109,110,111],[],[42],[63,111],[],[],false,false,false,[],[],false⟩ Tryz.func67 (by kernel_rfl) (by decide)
theorem o62:FnS E (N0 p) 62 J1:=fnS [0,1,2,3,7,8,9,10,11,12,13,14,16,18,19,20,36,37,38,61,62,63] ⟨[0,2],[63,114],[],[42],[63,114],[],[],false,false,false,[],[],false⟩ Tryz.func68 (by kernel_rfl) (by decide)
theorem o63:FnS E (N0 p) 63 Eg:=fnS [0,1,2,3,8,10,12,15,16,17,28,29,30] ⟨[0,8],[36,64,111],[],[34],[111],[],[],false,false,false,[],[],false⟩ Tryz.func69 (by kernel_rfl) (by decide)
theorem o64:FnS E (N0 p) 64 Ep:=fnS [0,1,2,3] {} Tryz.func70 (by kernel_rfl) (by decide)
theorem o65:FnS E (N0 p) 65 AT:=fnS [0,1,3,4,5] {} Tryz.func71 (by kernel_rfl) (by decide)
theorem o66:FnS E (N0 p) 66 Fy:=fnS [0,1,3,4,5,6] {} Tryz.func72 (by kernel_rfl) (by decide)
theorem o67:FnS E (N0 p) 67 J2:=fnS [0,1,3,4,5,6,7,8,9,10] {} Tryz.func73 (by kernel_rfl) (by decide)
theorem o68:FnS E (N0 p) 68 J3:=fnS [0,1,2,6,7,8,9,10] {} Tryz.func74 (by kernel_rfl) (by decide)
theorem o69:FnS E (N0 p) 69 Hh:=fnS [0,2,3,4] ⟨[],[],[],[],[],[],[],false,false,false,[(1000000,none)],[],false⟩ Tryz.func75 (by kernel_rfl) (by decide)
theorem o70:FnS E (N0 p) 70 J4:=fnS [0,1,2,3,4,6,7,8,9] {} Tryz.func76 (by kernel_rfl) (by decide)
theorem o71:FnS E (N0 p) 71 J5:=fnS [0,1,2,3,4,6,7,8,9,10,11,12,13,14] {} Tryz.func77 (by kernel_rfl) (by decide)
theorem o72:FnS E (N0 p) 72 A5:=fnS [0,1,2,3,4,6,7,8,9,10] {} Tryz.func78 (by kernel_rfl) (by decide)
theorem o73:FnS E (N0 p) 73 J6:=fnS [0,1,4,5,6] {} Tryz.func79 (by kernel_rfl) (by decide)
theorem o74:FnS E (N0 p) 74 N6:=fnS [0,1,4] ⟨[],[],[],[34],[],[],[],false,false,true,[],[],false⟩ Tryz.func80 (by kernel_rfl) (by decide)
theorem o75:FnS E (N0 p) 75 N7:=fnS [0,1] ⟨[1],[82],[],[42],[],[],[],false,false,false,[],[],false⟩ Tryz.func81 (by kernel_rfl) (by decide)
theorem o76:FnS E (N0 p) 76 N8:=fnS [0,1,4] ⟨[],[123],[],[],[],[],[],false,false,false,[],[],false⟩ Tryz.func83 (by kernel_rfl) (by decide)
theorem o77:FnS E (N0 p) 77 N9:=fnS [0,1,2,3] {} Tryz.func84 (by kernel_rfl) (by decide)
theorem o79:FnS E (N0 p) 79 Oa:=fnS [0,1,2,7,9,11,13,14,15,16,25,26,27,32,33,34,49,50,51] ⟨[],[86],[20,55],[],[],[],[],false,false,false,[],[],false⟩ Tryz.func86 (by kernel_rfl) (by decide)
theorem o80:FnS E (N0 p) 80 Ob:=fnS [0,2,3,5,6,8,9,10,11,25,26,27] ⟨[],[125],[],[38],[],[],[],false,true,false,[],[],false⟩ Tryz.func87 (by kernel_rfl) (by decide)
theorem o81:FnS E (N0 p) 81 J7:=fnS [0,1,2] {} Tryz.func42 (by kernel_rfl) (by decide)
theorem o82:FnS E (N0 p) 82 Oc:=fnS [0,1,2,3,4,5,6] {} Tryz.func43 (by kernel_rfl) (by decide)
theorem o83:FnS E (N0 p) 83 Od:=fnS [0,1,4] ⟨[],[92],[],[45],[],[],[],false,false,false,[],[],false⟩ Tryz.func44 (by kernel_rfl) (by decide)
theorem o85:FnS E (N0 p) 85 J8:=fnS [0,1,2,4,5] ⟨[],[],[],[],[],[],[],false,false,false,[(96,some 1),(1000000,none)],[],false⟩ Tryz.func96 (by kernel_rfl) (by decide)
theorem o86:FnS E (N0 p) 86 Oe:=fnS [0,1,5,7,8,9,10,18,19,20] {} Tryz.func97 (by kernel_rfl) (by decide)
theorem o87:FnS E (N0 p) 87 Of:=fnS [0,1,2,7,9,11,13,14,15,16,21,22,23,31,32,33,38,39,40] ⟨[],[97,98],[],[],[],[],[],false,false,false,[],[],false⟩ Tryz.func98 (by kernel_rfl) (by decide)
theorem o88:FnS E (N0 p) 88 Og:=DO [0,1,2,5] ⟨[1],[42],[],[],[],[],[(#[6],188,[1])],false,false,false,[],[],false⟩ [#[6]] Tryz.func99 (by kernel_rfl) (by decide) (by decide) ⟨⟨0,rfl,rfl⟩,trivial⟩
theorem o89:FnS E (N0 p) 89 J9:=fnS [0,1] ⟨[0],[55],[],[],[55],[],[],false,false,false,[],[],false⟩ Tryz.func101 (by kernel_rfl) (by decide)
theorem o90:FnS E (N0 p) 90 Ka:=fnS [0,1,2,7,9,10,11,12,47,48,49] ⟨[0],[55,101],[],[],[55,101],[],[],false,false,false,[],[],false⟩ Tryz.func102 (by kernel_rfl) (by decide)
theorem o91:FnS E (N0 p) 91 Fz:=fnS [0,1,3,5,19,20,21] ⟨[0],[55,101,105],[],[],[55,101,105],[],[],false,false,false,[],[],false⟩ Tryz.func103 (by kernel_rfl) (by decide)
theorem o92:FnS E (N0 p) 92 Eq:=fnS [0,1,2,4,7,9,11,29,30,31,72,73,74,83,84,85] ⟨[0],[55,101,102,103,104,141],[],[],[55,101,102,103,104,141],[],[],false,false,false,[],[],false⟩ Tryz.func104 (by kernel_rfl) (by decide)
theorem o93:FnS E (N0 p) 93 Hi:=fnS [0,1] ⟨[0],[55],[],[],[55],[],[],false,false,false,[],[],false⟩ Tryz.func105 (by kernel_rfl) (by decide)
theorem o94:FnS E (N0 p) 94 Hj:=DO [0,1,2,3,4,5,14] ⟨[2,4],[42],[],[],[],[],[(#[15],189,[2,4])],false,false,false,[],[],false⟩ [#[15]] Tryz.func106 (by kernel_rfl) (by decide) (by decide) ⟨⟨0,rfl,rfl⟩,trivial⟩
theorem o95:FnS E (N0 p) 95 Kb:=fnS [0,1,2,4,5,6] {} Tryz.func107 (by kernel_rfl) (by decide)
theorem o96:FnS E (N0 p) 96 Kc:=fnS [0,1,4,5,6] {} Tryz.func108 (by kernel_rfl) (by decide)
theorem o97:FnS E (N0 p) 97 Er:=fnS [0,1,4] ⟨[0],[],[],[],[],[],[],false,false,false,[],[],false⟩ Tryz.func109 (by kernel_rfl) (by decide)
theorem o98:FnS E (N0 p) 98 DA:=fnS [0,1,4] ⟨[0],[],[],[],[],[],[],false,false,false,[],[],false⟩ Tryz.func110 (by kernel_rfl) (by decide)
theorem o99:FnS E (N0 p) 99 FC:=DO [0,1,2,3,4,5,6,7,8,9,12] ⟨[0,2,5,6,7,9],[42],[],[],[],[],[(#[13],190,[5,6,7,9])],false,false,false,[],[],false⟩ [#[13]] Tryz.func111 (by kernel_rfl) (by decide) (by decide) ⟨⟨0,rfl,rfl⟩,trivial⟩
theorem d4Q:FnS E (N0 p) 100 Kd:=fnS [0,1,4] ⟨[],[145],[],[],[],[],[],false,false,false,[],[],false⟩ Tryz.func112 (by kernel_rfl) (by decide)
theorem d4R:FnS E (N0 p) 101 Ke:=fnS [0,1,2,3] {} Tryz.func113 (by kernel_rfl) (by decide)
theorem d4S:FnS E (N0 p) 102 Kj:=fnS [0,1,2,3,7,8,9,11,13,15,17,21,22,23,39,40,41,52,53,54,77,78,79] ⟨[0,2],[63,64,65,66,67,68,146,147],[],[],[63,65,66,67,68,146],[],[],false,false,false,[],[],false⟩ Tryz.func114 (by kernel_rfl) (by decide)
theorem d4T:FnS E (N0 p) 103 Hk:=fnS [0,1,3,4] {} Tryz.func115 (by kernel_rfl) (by decide)
theorem d4U:FnS E (N0 p) 104 Es:=fnS [0,2,3] {} Tryz.func116 (by kernel_rfl) (by decide)
theorem d4V:FnS E (N0 p) 105 Kk:=fnS [0,1,2,6,7,8] {} Tryz.func117 (by kernel_rfl) (by decide)
theorem d4W:FnS E (N0 p) 106 Hl:=fnS [0,1,3,4,5] {} Tryz.func118 (by kernel_rfl) (by decide)
theorem d4X:FnS E (N0 p) 107 Et:=fnS [0,1,2,4,6,7,8] {} Tryz.func119 (by kernel_rfl) (by decide)
theorem d4Y:FnS E (N0 p) 108 Hm:=fnS [0,1,2,3,4,6,7,8,9,10,11,12,13,14,15,16,17,18] {} Tryz.func120 (by kernel_rfl) (by decide)
theorem d4Z:FnS E (N0 p) 109 Kl:=fnS [0,1,2,3,6,7,8] {} Tryz.func121 (by kernel_rfl) (by decide)
theorem d40:FnS E (N0 p) 110 Km:=fnS [0,1,4] ⟨[],[122],[],[42],[],[],[],false,false,false,[],[],false⟩ Tryz.func82 (by kernel_rfl) (by decide)
theorem d41:FnS E (N0 p) 111 Oh:=fnS [0,1,4,5,7,8] ⟨[],[],[11],[],[],[],[],false,false,false,[],[],false⟩ Tryz.func123 (by kernel_rfl) (by decide)
theorem d42:FnS E (N0 p) 112 Oi:=fnS [0,2,3,5,6,8,9,10,11,25,26,27] ⟨[],[159],[],[138],[],[],[],false,true,false,[],[],false⟩ Tryz.func124 (by kernel_rfl) (by decide)
theorem d43:FnS E (N0 p) 113 Oj:=fnS [0,1,4] ⟨[],[],[],[38],[],[],[],false,false,true,[],[],false⟩ Tryz.func125 (by kernel_rfl) (by decide)
theorem d44:FnS E (N0 p) 114 Hn:=fnS [0,1] ⟨[],[89],[],[],[89],[],[],false,false,false,[],[],false⟩ Tryz.func88 (by kernel_rfl) (by decide)
theorem d45:FnS E (N0 p) 115 Ok:=fnS [0,1,4,5,7,8] ⟨[],[],[11],[],[],[],[],false,false,false,[],[],false⟩ Tryz.func90 (by kernel_rfl) (by decide)
theorem d46:FnS E (N0 p) 116 Ol:=fnS [0,1,2,3] {} Tryz.func91 (by kernel_rfl) (by decide)
theorem d47:FnS E (N0 p) 117 Om:=fnS [0,1,4,5,7,8] ⟨[],[],[],[45],[],[],[],false,false,false,[],[],false⟩ Tryz.func92 (by kernel_rfl) (by decide)
theorem d48:FnS E (N0 p) 118 DB:=fnS [0,2,3,22,23] {} Tryz.func138 (by kernel_rfl) (by decide)
theorem d49:FnS E (N0 p) 119 FD:=fnS [0,1,4,5,7] {} Tryz.func139 (by kernel_rfl) (by decide)
theorem d5a:FnS E (N0 p) 120 FE:=fnS [0,1,2,6] {} Tryz.func140 (by kernel_rfl) (by decide)
theorem d5b:FnS E (N0 p) 121 Kn:=fnS [0,1,2,3,9,10,11,12] ⟨[0],[55,105],[],[],[55,105],[],[],false,false,false,[],[],false⟩ Tryz.func141 (by kernel_rfl) (by decide)
theorem d5c:FnS E (N0 p) 122 FF:=DO [0,1,2,14] ⟨[2],[42],[],[],[],[],[(#[15],191,[2])],false,false,false,[],[],false⟩ [#[15]] Tryz.func142 (by kernel_rfl) (by decide) (by decide) ⟨⟨0,rfl,rfl⟩,trivial⟩
theorem d5d:FnS E (N0 p) 123 Ci:=fnS [0,1,3,4,5,11,12] {} Tryz.func143 (by kernel_rfl) (by decide)
theorem d5e:FnS E (N0 p) 124 DC:=fnS [0,1,2,3,6,8,9] ⟨[0],[63],[],[],[63],[],[],false,false,false,[],[],false⟩ Tryz.func144 (by kernel_rfl) (by decide)
theorem d5f:FnS E (N0 p) 125 Ho:=fnS [0,1,4,5,7,8] ⟨[],[],[11],[],[],[],[],false,false,false,[],[],false⟩ Tryz.func145 (by kernel_rfl) (by decide)
theorem d5g:FnS E (N0 p) 126 Hp:=fnS [0,1,2,3,9,10,11,12] ⟨[0,2],[111],[],[],[111],[],[],false,false,false,[],[],false⟩ Tryz.func146 (by kernel_rfl) (by decide)
theorem d5h:FnS E (N0 p) 127 FG:=fnS [0,1,4,5,6,7] ⟨[],[179],[26],[42],[],[],[],false,false,true,[],[],false⟩ Tryz.func147 (by kernel_rfl) (by decide)
theorem d5i:FnS E (N0 p) 128 Hq:=fnS [0,1,3] {} Tryz.func148 (by kernel_rfl) (by decide)
theorem d5j:FnS E (N0 p) 129 Ko:=fnS [0,1,4] ⟨[],[179],[],[],[],[],[],false,false,false,[],[],false⟩ Tryz.func149 (by kernel_rfl) (by decide)
theorem d5k:FnS E (N0 p) 130 Kq:=fnS [0,1,3] {} Tryz.func150 (by kernel_rfl) (by decide)
theorem d5l:FnS E (N0 p) 131 Kr:=fnS [0,2] {} Tryz.func151 (by kernel_rfl) (by decide)
theorem d5m:FnS E (N0 p) 132 Hr:=fnS [0,2] {} Tryz.func152 (by kernel_rfl) (by decide)
theorem d5n:FnS E (N0 p) 133 Ks:=fnS [0,2,3,4] {} Tryz.func153 (by kernel_rfl) (by decide)
theorem d5o:FnS E (N0 p) 134 C3:=fnS [0,1,2,4,6,7,8] {} Tryz.func154 (by kernel_rfl) (by decide)
theorem d5p:FnS E (N0 p) 135 FH:=fnS [0,1,2,3,4] {} Tryz.func155 (by kernel_rfl) (by decide)
theorem d5q:FnS E (N0 p) 136 Bo:=fnS [0,1,3,4,5,6] {} Tryz.func156 (by kernel_rfl) (by decide)
theorem d5r:FnS E (N0 p) 137 Cj:=fnS [0,1,2,3,5,8,9,10,11] {} Tryz.func157 (by kernel_rfl) (by decide)
theorem d5s:FnS E (N0 p) 138 Kt:=fnS [0,1,2,4,5,6] {} Tryz.func158 (by kernel_rfl) (by decide)
theorem d5t:FnS E (N0 p) 139 Hs:=fnS [0,1,4,5,7,8] ⟨[],[],[],[42],[],[],[],false,false,false,[],[],false⟩ Tryz.func122 (by kernel_rfl) (by decide)
theorem d5u:FnS E (N0 p) 140 Ox:=fnS [0,1,4] ⟨[],[],[],[138],[],[],[],false,false,true,[],[],false⟩ Tryz.func159 (by kernel_rfl) (by decide)
theorem d5v:FnS E (N0 p) 141 Ck:=fnS [0,1,2,4,6,12,13,14] ⟨[],[89],[7],[],[89],[7],[],false,false,false,[],[],false⟩ Tryz.func89 (by kernel_rfl) (by decide)
theorem d5w:FnS E (N0 p) 142 Ku:=fnS [0,2] {} Tryz.func170 (by kernel_rfl) (by decide)
theorem d5x:FnS E (N0 p) 143 Kv:=fnS [0,2,3,4] {} Tryz.func171 (by kernel_rfl) (by decide)
theorem d5y:FnS E (N0 p) 144 Ht:=fnS [0,2] {} Tryz.func172 (by kernel_rfl) (by decide)
theorem d5z:FnS E (N0 p) 145 FK:=fnS [0,1,4,5] {} Tryz.func173 (by kernel_rfl) (by decide)
theorem d5A:FnS E (N0 p) 146 Kw:=fnS [0,2] {} Tryz.func174 (by kernel_rfl) (by decide)
theorem d5B:FnS E (N0 p) 147 Kx:=DO [0,1,2,5] ⟨[2],[42],[],[],[],[],[(#[6],192,[2])],false,false,false,[],[],false⟩ [#[6]] Tryz.func175 (by kernel_rfl) (by decide) (by decide) ⟨⟨0,rfl,rfl⟩,trivial⟩
theorem d5C:FnS E (N0 p) 148 Ky:=DO [0,1,2,3,5] ⟨[3],[42],[],[],[],[],[(#[6],193,[3])],false,false,false,[],[],false⟩ [#[6]] Tryz.func176 (by kernel_rfl) (by decide) (by decide) ⟨⟨0,rfl,rfl⟩,trivial⟩
theorem d5D:FnS E (N0 p) 149 Kz:=fnS [0,1,2,3,5,7,8,9] {} Tryz.func177 (by kernel_rfl) (by decide)
theorem d5E:FnS E (N0 p) 150 Al:=fnS [0,1,2,3,4,5] {} Tryz.func178 (by kernel_rfl) (by decide)
theorem d5F:FnS E (N0 p) 151 Eu:=fnS [0,1,4,5,7,8] ⟨[],[],[11],[42],[],[],[],false,false,false,[],[],false⟩ Tryz.func179 (by kernel_rfl) (by decide)
theorem d5G:FnS E (N0 p) 152 KB:=fnS [0,2] {} Tryz.func180 (by kernel_rfl) (by decide)
theorem d5H:FnS E (N0 p) 153 KC:=fnS [0] {} Tryz.func181 (by kernel_rfl) (by decide)
theorem d5I:FnS E (N0 p) 154 KD:=fnS [0,1,4] {} Tryz.func182 (by kernel_rfl) (by decide)
theorem d5J:FnS E (N0 p) 155 FL:=fnS [0,1,2,6] {} Tryz.func183 (by kernel_rfl) (by decide)
theorem d5K:FnS E (N0 p) 156 KE:=fnS [0,1,2,3,4] {} Tryz.func184 (by kernel_rfl) (by decide)
theorem d5L:FnS E (N0 p) 157 KF:=fnS [0,1,2,3,4] {} Tryz.func185 (by kernel_rfl) (by decide)
theorem d5M:FnS E (N0 p) 158 xf:=fnS [0,1,2,3,4,55] {} Tryz.func186 (by kernel_rfl) (by decide)
theorem d5N:FnS E (N0 p) 159 DD:=fnS [0,2] {} Tryz.func187 (by kernel_rfl) (by decide)
theorem d5O:FnS E (N0 p) 160 DE:=fnS [0,1,4] {} Tryz.func188 (by kernel_rfl) (by decide)
theorem d5P:FnS E (N0 p) 161 KG:=fnS [0,1,2,3,8,9,10] {} Tryz.func189 (by kernel_rfl) (by decide)
theorem d5Q:FnS E (N0 p) 162 KH:=fnS [0,2] {} Tryz.func195 (by kernel_rfl) (by decide)
theorem d5R:FnS E (N0 p) 163 zl:=fnS [0,1,2,3,4,5,18,77] {} Tryz.func196 (by kernel_rfl) (by decide)
theorem d5S:FnS E (N0 p) 164 CE:=fnS [0,2,3,4,5,6,7,8,9,10,11,12,13] {} Tryz.func197 (by kernel_rfl) (by decide)
theorem d5T:FnS E (N0 p) 165 Ap:=fnS [0,1,2,3,8,9,33,38] {} Tryz.func198 (by kernel_rfl) (by decide)
theorem d5U:FnS E (N0 p) 166 Ev:=fnS [0,1,4] {} Tryz.func199 (by kernel_rfl) (by decide)
theorem d5V:FnS E (N0 p) 167 CF:=fnS [0,2,3,4,5] {} Tryz.func200 (by kernel_rfl) (by decide)
theorem d5W:FnS E (N0 p) 168 KI:=fnS [0,1,2] {} Tryz.func201 (by kernel_rfl) (by decide)
theorem d5X:FnS E (N0 p) 169 Ew:=fnS [0,1,4] {} Tryz.func204 (by kernel_rfl) (by decide)
theorem d5Y:FnS E (N0 p) 170 Hu:=fnS [0,2] {} Tryz.func205 (by kernel_rfl) (by decide)
theorem d5Z:FnS E (N0 p) 171 FM:=fnS [0,1,4] {} Tryz.func206 (by kernel_rfl) (by decide)
theorem d50:FnS E (N0 p) 172 Hv:=fnS [0,1,4,5,6] {} Tryz.func207 (by kernel_rfl) (by decide)
theorem d51:FnS E (N0 p) 173 KJ:=fnS [0,1,4,5] {} Tryz.func208 (by kernel_rfl) (by decide)
theorem d52:FnS E (N0 p) 174 KK:=fnS [0,2,3,4,5,7,8] {} Tryz.func209 (by kernel_rfl) (by decide)
theorem d53:FnS E (N0 p) 175 FN:=fnS [0,1,2] {} Tryz.func210 (by kernel_rfl) (by decide)
theorem d54:FnS E (N0 p) 176 KL:=fnS [0,1,4,5] {} Tryz.func211 (by kernel_rfl) (by decide)
theorem d55:FnS E (N0 p) 177 FP:=fnS [0,1,2] {} Tryz.func212 (by kernel_rfl) (by decide)
theorem d56:FnS E (N0 p) 178 KM:=fnS [0,1,2,4,5,6,7] {} Tryz.func213 (by kernel_rfl) (by decide)
theorem d57:FnS E (N0 p) 179 Hw:=fnS [0,1,4,5,6,7] {} Tryz.func214 (by kernel_rfl) (by decide)
theorem d58:FnS E (N0 p) 180 Hx:=fnS [0,1,4,5] {} Tryz.func215 (by kernel_rfl) (by decide)
theorem d59:FnS E (N0 p) 181 Hy:=fnS [0,1,4,5,6,7,8,9,10,11,12,13] {} Tryz.func216 (by kernel_rfl) (by decide)
theorem d6a:FnS E (N0 p) 182 FQ:=fnS [0,1,4] {} Tryz.func217 (by kernel_rfl) (by decide)
theorem d6b:FnS E (N0 p) 184 Oy:=fnS [0,2] {} Tryz.func220 (by kernel_rfl) (by decide)
theorem d6c:FnS E (N0 p) 185 Oz:=fnS [0,1,4,5,6,7,8,9,10] {} Tryz.func221 (by kernel_rfl) (by decide)
theorem d6d:FnS E (N0 p) 186 OA:=fnS [0,2,3,4,5,6,7,8] {} Tryz.func223 (by kernel_rfl) (by decide)
theorem d6e:FnS E (N0 p) 187 OB:=rdS [1,2] [1,2,9,4,5,6] ⟨[1,2],[44],[],[45],[],[],[],false,false,false,[],[],false⟩ 0 #[9] rfl Tryz.func41 (by kernel_rfl) (by kernel_rfl) (by decide)
theorem d6f:FnS E (N0 p) 188 OC:=rdS [1] [1,6,3,8,12] ⟨[1],[],[],[],[],[],[],false,false,false,[],[],false⟩ 0 #[6] rfl Tryz.func99 (by kernel_rfl) (by kernel_rfl) (by decide)
theorem d6g:FnS E (N0 p) 189 Hz:=rdS [2,4] [2,4,15,6,7] ⟨[2,4],[],[],[],[],[],[],false,false,false,[],[],false⟩ 0 #[15] rfl Tryz.func106 (by kernel_rfl) (by kernel_rfl) (by decide)
theorem d6h:FnS E (N0 p) 190 DG:=rdS [5,6,7,9] [5,6,7,9,13,10,15,16] ⟨[5,6,7,9],[63,109,144],[],[],[63,144],[],[],false,false,false,[],[109],false⟩ 0 #[13] rfl Tryz.func111 (by kernel_rfl) (by kernel_rfl) (by decide)
theorem d6i:FnS E (N0 p) 191 HA:=rdS [2] [2,15,3,4] ⟨[2],[],[],[],[],[],[],false,false,false,[],[],false⟩ 0 #[15] rfl Tryz.func142 (by kernel_rfl) (by kernel_rfl) (by decide)
theorem d6j:FnS E (N0 p) 192 C4:=rdS [2] [2,6,3,8,9] ⟨[2],[],[],[],[],[],[],false,false,false,[],[],false⟩ 0 #[6] rfl Tryz.func175 (by kernel_rfl) (by kernel_rfl) (by decide)
theorem d6k:FnS E (N0 p) 193 KN:=rdS [3] [3,6] ⟨[3],[],[],[],[],[],[],false,false,false,[],[],false⟩ 0 #[6] rfl Tryz.func176 (by kernel_rfl) (by kernel_rfl) (by decide)
theorem d3K (h39:Dh (N0 p) Tryz.prog 39 GM) (h44:Dh (N0 p) Tryz.prog 44 GL) (h183:Dh (N0 p) Tryz.prog 183 GK) (h27:CY (N0 p) Tryz.prog 27 (A0 1)) (h48:CY (N0 p) Tryz.prog 48 (A0 2)):∀k pf,LS k=some pf→FnS E (N0 p) k pf:=by
 have all:AllFn E (N0 p) 0 LSt:=⟨o0,o6,o7,o8,o9,o11,o12,o13,o14,o17,o19,o21,o23,o25,o26,.inl ⟨rfl,rfl,by decide,.inr (.inr ⟨_,Tryz.f30,rfl,rfl,rfl,Tryz.func30,by decide,by kernel_rfl,h27⟩)⟩,o28,o29,o30,o31,o33,o34,o35,o37,o38,.inl ⟨rfl,rfl,by decide,.inr (.inl ⟨_,Tryz.f45,rfl,rfl,Tryz.func45,by decide,by kernel_rfl,h39⟩)⟩,o41,o43,.inl ⟨rfl,rfl,by decide,.inr (.inl ⟨_,Tryz.f50,rfl,rfl,Tryz.func50,by decide,by kernel_rfl,h44⟩)⟩,.inl ⟨rfl,rfl,by decide,.inr (.inr ⟨_,Tryz.f54,rfl,rfl,rfl,Tryz.func54,by decide,by kernel_rfl,h48⟩)⟩,o49,o50,o51,o52,o53,o54,o55,o56,o57,o58,o59,o60,o61,o62,o63,o64,o65,o66,o67,o68,o69,o70,o71,o72,o73,o74,o75,o76,o77,o79,o80,o81,o82,o83,o85,o86,o87,o88,o89,o90,o91,o92,o93,o94,o95,o96,o97,o98,o99,d4Q,d4R,d4S,d4T,d4U,d4V,d4W,d4X,d4Y,d4Z,d40,d41,d42,d43,d44,d45,d46,d47,d48,d49,d5a,d5b,d5c,d5d,d5e,d5f,d5g,d5h,d5i,d5j,d5k,d5l,d5m,d5n,d5o,d5p,d5q,d5r,d5s,d5t,d5u,d5v,d5w,d5x,d5y,d5z,d5A,d5B,d5C,d5D,d5E,d5F,d5G,d5H,d5I,d5J,d5K,d5L,d5M,d5N,d5O,d5P,d5Q,d5R,d5S,d5T,d5U,d5V,d5W,d5X,d5Y,d5Z,d50,d51,d52,d53,d54,d55,d56,d57,d58,d59,d6a,.inl ⟨rfl,rfl,by decide,.inr (.inl ⟨_,Tryz.f218,rfl,rfl,Tryz.func218,by decide,by kernel_rfl,h183⟩)⟩,d6b,d6c,d6d,d6e,d6f,d6g,d6h,d6i,d6j,d6k,trivial⟩
 intro k pf h
 have:=all.get (k:=k) (f:=pf) h
 rwa [aK] at this
end
end Go.Proofs.YtljbhgpanekomaaGreatDoor.Pi
