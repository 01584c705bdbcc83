/-
  CauseOrders (a program has no instantaneous cycle exactly if all of its nodes have an order) holds of the translated program where what it reads is of bulk at most 1048576: the law returns true and leaves its arguments as they were. No further condition; proved by way of a pure interpreter that is shown to be sound for the machine.
-/
import Derived.Test.YtljbhgpanekomaaGreatRows
import Derived.Test.YtljbhgpanekomaaGreatPiCaSeat
import Derived.Test.YtljbhgpanekomaaGreatPiCaPlain
import Derived.Test.YtljbhgpanekomaaGreatPiPrimSortF
import Derived.Test.YtljbhgpanekomaaGreatPiCaC4
import Derived.Test.YtljbhgpanekomaaGreatPiCaC4
import Derived.Test.YtljbhgpanekomaaGreatPiLaw
import Derived.Test.YtljbhgpanekomaaGreatPiCaC4
import Derived.Test.YtljbhgpanekomaaGreatPiCaC4
import Derived.Test.YtljbhgpanekomaaGreatPiPrimSortF
import Derived.Test.YtljbhgpanekomaaGreatPiCaC4
import Derived.WalkKit
import Derived.ProofKit
import Derived.OpenShut
import Derived.SizedLaws
import Derived.Handed
import Derived.Lay
import Derived.LaidSub
import Derived.Lib.LaidTab
import Derived.Stop.LaidErr
import Derived.SevenTiedAt
import Derived.Deep.DeepHandedRow
set_option maxRecDepth 100000
set_option linter.unusedVariables false
namespace Go.Proofs.YtljbhgpanekomaaGreat.Pi
open Go.ChangeShapes Go.WideShapes Go.ChangeAt Go.RowKit PI PI.Sc
theorem own:ownKnob Tryz.prog.godebug=none:=by kernel_rfl
def tm (i:Nat):TypeId:=([9,3,50,77,22,100,56,58,42,52,45,54,43,4,238,164,166,130,44,128,47,23,25]:List Nat).getD i 5
theorem c3M:(List.range 24).all (λi=>EO Tryz.prog D tm 24 i)=true:=by kernel_rfl
theorem c3N:∀i,i<24→EO Tryz.prog D tm 24 i=true:=by
 intro i hi
 exact aN.1 c3M i (by simpa using hi)
theorem c6x:laidOutB Tryz.prog=true:=by kernel_rfl
theorem c6y:(List.range 24).all (λi=>Tryz.prog.readableRec (tm i)&&decide (tm i<Tryz.prog.types.size))=true:=by kernel_rfl
theorem d0a (i:Nat) (hi:i<24):i<24∧Tryz.prog.readableRec (tm i)=true∧tm i<Tryz.prog.types.size:=by
 have:=aN.1 c6y i (by simpa using hi)
 simp only[ap,ay] at this
 exact⟨hi,this⟩
def par:Ps:=⟨[],[],0⟩
theorem rec27 (p:Ps):EP (N0 p) Tryz.prog 27 (CN 1):=by
 refine Pw (E:=E.opt { hs:=[0,1],sr:=true }) ((Lg p).opt _) rfl mixed rfl (fn:=Tryz.f31) (tA:=20) (T:=70) Tryz.func31 rfl rfl rfl ⟨_,rfl⟩ rfl rfl rfl rfl rfl rfl rfl (by kernel_rfl) (by kernel_rfl) rfl (by kernel_rfl) rfl (by kernel_rfl) (by kernel_rfl)
theorem rec48 (p:Ps):EP (N0 p) Tryz.prog 48 (CN 2):=by
 refine Pw (E:=E.opt { hs:=[0,1],sr:=true }) ((Lg p).opt _) rfl mixed rfl (fn:=Tryz.f59) (tA:=20) (T:=113) Tryz.func59 rfl rfl rfl ⟨_,rfl⟩ rfl rfl rfl rfl rfl rfl rfl (by kernel_rfl) (by kernel_rfl) rfl (by kernel_rfl) rfl (by kernel_rfl) (by kernel_rfl)
theorem d34 (p:Ps):EQ (N0 p) Tryz.prog 218 (ER 219):=
 c4I (ρ:=Tryz.sortEdge_ren) (by kernel_rfl) Tryz.sortEdge Tryz.isAgg49 Tryz.sizeOf49 (enters_of Tryz.func50 (by kernel_rfl) rfl) c3R
theorem lib:∀k pf,LS k=some pf→FnS E (N0 par) k pf:=
 d4r (h39:=c7G (ρ:=Tryz.lays189_ren) (by kernel_rfl) Tryz.lays189)
  (h183:=b7q (ρ:=Tryz.lays217_ren) (by kernel_rfl) Tryz.lays217) (h218:=d34 _) (h27:=rec27 _) (h48:=rec48 _)
mutual
theorem I3 {H:Type}:∀d:DataW H,Rows.uptoBulk d=AD d
 | .lit x=>by cases x<;>rfl
 | .nil=>rfl
 | .ptr d=>by simp only[Rows.uptoBulk,AD,I3 d]
 | .slice es sp=>by simp only[Rows.uptoBulk,AD,Hb es,Hb sp]
 | .agg ps=>by simp only[Rows.uptoBulk,AD,Hb ps]
 | .iface _ d=>by simp only[Rows.uptoBulk,AD,I3 d]
 | .map es=>by simp only[Rows.uptoBulk,AD,Px es]
 | .held _=>rfl
theorem Hb {H:Type}:∀ds:List (DataW H),Rows.uptoBulkAll ds=C7 ds
 | []=>rfl
 | d::r=>by simp only[Rows.uptoBulkAll,C7,I3 d,Hb r]
theorem Px {H:Type}:∀ds:List (Lit×DataW H),Rows.uptoBulkEntries ds=I4 ds
 | []=>rfl
 | x::r=>by simp only[Rows.uptoBulkEntries,I4,c1D x,Px r]
theorem c1D {H:Type}:∀x:Lit×DataW H,Rows.uptoBulkEntry x=Lh x
 | (l,d)=>by cases l<;>simp only[Rows.uptoBulkEntry,Lh,I3 d]
end
theorem c3O {H:Type} {ds:List (DataW H)} {pvs:List PV} (hk:Rows.uptoSmall H ds=true) (h:wts pvs≤C7 ds):wts pvs≤1048576:=by
 have:Rows.uptoBulkAll ds≤1048576:=of_decide_eq_true hk
 rw[Hb] at this
 omega
theorem b4m (pvs:List PV) (h:Hc D [22] pvs) (hw:wts pvs≤1048576):∃m h',call LS m 194 pvs []=some (.bool true,h'):=by
 match pvs,h with
 | [p], h =>
   obtain⟨x,rfl,hx⟩:=c7j p h.1
   simp only[wts] at hw
   have hp:=c7m x
   obtain⟨h',hr⟩:=b4q x (hx.pw (by omega)) (by omega)
   obtain⟨m,hm⟩:=Cx.1 hr
   exact⟨m,h',hm⟩
theorem b4n:∀i∈([22]:List Nat),i<24∧Tryz.prog.readableRec (tm i)=true∧tm i<Tryz.prog.types.size:=λi hi=>d0a i (by simp at hi; omega)
theorem c3P (w:World):laidMetH Tryz.prog [] w:=⟨[],rfl,List.nodup_nil,λ_ _ h=>by cases h⟩
theorem b1c (os:Os) (started:os.Started) (H:Type) (enc:TypeId×Value→H) (F:Stop.Interp):
  ReturnsInHanded {} Tryz.checked os 5 .any ((Rows.OpenSpec.upto Rows.causeOrdersSpec).preRow enc Tryz.prog Tryz.f5 [] false []) (((Rows.OpenSpec.upto Rows.causeOrdersSpec).at F).post enc Tryz.prog Tryz.f5 false true false false):=by
 refine returnsInHanded_of_row (C:=Tryz.checked) (s:=Rows.OpenSpec.upto Rows.causeOrdersSpec) own started (by kernel_rfl) Tryz.func5
  (witness_row_at (enc:=enc) (C:=Tryz.checked) (os:=os) (s:=Rows.OpenSpec.upto Rows.causeOrdersSpec) false (World.laidAll Tryz.prog os []) #[.agg #[.slice none 0 0,.slice none 0 0]] (World.laidAll_os _ _ _) (by kernel_rfl) (by kernel_rfl) (by kernel_rfl)
   ⟨⟨(OpenSpec.pre_some (k:=Rows.uptoSmall) rfl [] false _ _).2 ⟨[.agg [.nil,.nil]],[],[],(DataW.Whole_of_whole (fuel:=8) (x:=(([.agg [.nil,.nil]]:List (DataW H)),([]:List (DataW H)),([]:List MemPlace))) (by kernel_rfl)),rfl,by kernel_rfl⟩,c3P _⟩,sizedMet_of_sizedB (s:=Rows.causeOrdersSpec) (fuel:=8) (by kernel_rfl)⟩) ?_
 intro W base args ds gs before eI hW _ hk jv _ _ _
 exact b8R (s:=Rows.causeOrdersSpec) (base':=base) (N:=N0 par) (D:=D) (tm:=tm) (n:=24) (k:=194) (idxs:=[22]) (tb:=4) (Lg _) rfl mixed lib (λt h=>by cases h) (λt h=>by cases h) c3N c6x (by kernel_rfl) b4n rfl Tryz.underlying4 (by kernel_rfl)
  (λds hl=>by match ds,hl with | [_],_=>rfl) eI hW jv (λpvs h hw=>b4m pvs h (c3O (hk _ rfl) hw))
theorem causeOrders_holds:Rows.CauseOrdersUptoSaid:=
 OpenClaim.holds_of_cond 5 Tryz.f5 rfl rfl rfl rfl rfl rfl rfl ⟨rfl,rfl,rfl,rfl,rfl⟩ rfl rfl rfl rfl rfl (by kernel_rfl) Tryz.func5 (by kernel_rfl)
  (of_decide_eq_true (by kernel_rfl)) (by unfold Func.isWrapper; first|(rw[af (by decide +kernel)]; kernel_rfl)|(rw[ae (by decide +kernel)]; exact⟨rfl,rfl⟩))
  (λos started H enc _ F=>by rw[OpenClaim.pre_eq_preRow]; exact b1c os started H enc F)
#print axioms causeOrders_holds
end Go.Proofs.YtljbhgpanekomaaGreat.Pi
