/-
  CauseTurned (whether there is a cycle does not depend on the order of the equations) holds of the translated program where what it reads is of bulk at most 1048576: the law returns true and leaves its arguments as they were. No further condition; proved by way of a pure interpreter that is shown to be sound for the machine.
-/
import Derived.Test.YtljbhgpanekomaaGreatRows
import Derived.Test.YtljbhgpanekomaaGreatPiCaSeat
import Derived.Test.YtljbhgpanekomaaGreatPiCaPlain
import Derived.Test.YtljbhgpanekomaaGreatPiPrimSortF
import Derived.Test.YtljbhgpanekomaaGreatPiCaC3
import Derived.Test.YtljbhgpanekomaaGreatPiCaC3
import Derived.Test.YtljbhgpanekomaaGreatPiLaw
import Derived.Test.YtljbhgpanekomaaGreatPiCaC3
import Derived.Test.YtljbhgpanekomaaGreatPiCaC3
import Derived.Test.YtljbhgpanekomaaGreatPiPrimSortF
import Derived.Test.YtljbhgpanekomaaGreatPiCaC3
import Derived.WalkKit
import Derived.ProofKit
import Derived.OpenShut
import Derived.SizedLaws
import Derived.Handed
import Derived.Lay
import Derived.LaidSub
import Derived.Lib.LaidTab
import Derived.Stop.LaidErr
import Derived.SevenTiedAt
import Derived.Deep.DeepHandedRow
set_option maxRecDepth 100000
set_option linter.unusedVariables false
namespace Go.Proofs.YtljbhgpanekomaaGreat.Pi
open Go.ChangeShapes Go.WideShapes Go.ChangeAt Go.RowKit PI PI.Sc
theorem own:ownKnob Tryz.prog.godebug=none:=by kernel_rfl
def tm (i:Nat):TypeId:=([9,3,50,77,22,100,56,58,42,52,45,54,43,4,238,164,166,130,44,128,47,23,25]:List Nat).getD i 5
theorem c4F:(List.range 24).all (λi=>EE Tryz.prog D tm 24 i)=true:=by kernel_rfl
theorem c4G:∀i,i<24→EE Tryz.prog D tm 24 i=true:=by
 intro i hi
 exact aJ.1 c4F i (by simpa using hi)
theorem c7w:laidOutB Tryz.prog=true:=by kernel_rfl
theorem c7x:(List.range 24).all (λi=>Tryz.prog.readableRec (tm i)&&decide (tm i<Tryz.prog.types.size))=true:=by kernel_rfl
theorem d1e (i:Nat) (hi:i<24):i<24∧Tryz.prog.readableRec (tm i)=true∧tm i<Tryz.prog.types.size:=by
 have:=aJ.1 c7x i (by simpa using hi)
 simp only[ao,av] at this
 exact⟨hi,this⟩
def par:Ps:=⟨[],[],0⟩
theorem rec27 (p:Ps):EF (N0 p) Tryz.prog 27 (CL 1):=by
 refine Pn (E:=E.opt { hs:=[0,1],sr:=true }) ((Lf p).opt _) rfl mixed rfl (fn:=Tryz.f31) (tA:=20) (T:=70) Tryz.func31 rfl rfl rfl ⟨_,rfl⟩ rfl rfl rfl rfl rfl rfl rfl (by kernel_rfl) (by kernel_rfl) rfl (by kernel_rfl) rfl (by kernel_rfl) (by kernel_rfl)
theorem rec48 (p:Ps):EF (N0 p) Tryz.prog 48 (CL 2):=by
 refine Pn (E:=E.opt { hs:=[0,1],sr:=true }) ((Lf p).opt _) rfl mixed rfl (fn:=Tryz.f59) (tA:=20) (T:=113) Tryz.func59 rfl rfl rfl ⟨_,rfl⟩ rfl rfl rfl rfl rfl rfl rfl (by kernel_rfl) (by kernel_rfl) rfl (by kernel_rfl) rfl (by kernel_rfl) (by kernel_rfl)
theorem d5a (p:Ps):EG (N0 p) Tryz.prog 218 (EI 219):=
 c5H (ρ:=Tryz.sortEdge_ren) (by kernel_rfl) Tryz.sortEdge Tryz.isAgg49 Tryz.sizeOf49 (enters_of Tryz.func50 (by kernel_rfl) rfl) c4K
theorem lib:∀k pf,LS k=some pf→FnS E (N0 par) k pf:=
 d5u (h39:=c8J (ρ:=Tryz.lays189_ren) (by kernel_rfl) Tryz.lays189)
  (h183:=b7U (ρ:=Tryz.lays217_ren) (by kernel_rfl) Tryz.lays217) (h218:=d5a _) (h27:=rec27 _) (h48:=rec48 _)
mutual
theorem IY {H:Type}:∀d:DataW H,Rows.uptoBulk d=Au d
 | .lit x=>by cases x<;>rfl
 | .nil=>rfl
 | .ptr d=>by simp only[Rows.uptoBulk,Au,IY d]
 | .slice es sp=>by simp only[Rows.uptoBulk,Au,GX es,GX sp]
 | .agg ps=>by simp only[Rows.uptoBulk,Au,GX ps]
 | .iface _ d=>by simp only[Rows.uptoBulk,Au,IY d]
 | .map es=>by simp only[Rows.uptoBulk,Au,Po es]
 | .held _=>rfl
theorem GX {H:Type}:∀ds:List (DataW H),Rows.uptoBulkAll ds=CY ds
 | []=>rfl
 | d::r=>by simp only[Rows.uptoBulkAll,CY,IY d,GX r]
theorem Po {H:Type}:∀ds:List (Lit×DataW H),Rows.uptoBulkEntries ds=IZ ds
 | []=>rfl
 | x::r=>by simp only[Rows.uptoBulkEntries,IZ,c2m x,Po r]
theorem c2m {H:Type}:∀x:Lit×DataW H,Rows.uptoBulkEntry x=Lg x
 | (l,d)=>by cases l<;>simp only[Rows.uptoBulkEntry,Lg,IY d]
end
theorem c4H {H:Type} {ds:List (DataW H)} {pvs:List PV} (hk:Rows.uptoSmall H ds=true) (h:wts pvs≤CY ds):wts pvs≤1048576:=by
 have:Rows.uptoBulkAll ds≤1048576:=of_decide_eq_true hk
 rw[GX] at this
 omega
theorem b4B (pvs:List PV) (h:GY D [22] pvs) (hw:wts pvs≤1048576):∃m h',call LS m 196 pvs []=some (.bool true,h'):=by
 match pvs,h with
 | [p], h =>
   obtain⟨x,rfl,hx⟩:=c8h p h.1
   simp only[wts] at hw
   have hp:=c8k x
   obtain⟨h',hr⟩:=b4J x (hx.pw (by omega)) (by omega)
   obtain⟨m,hm⟩:=Cs.1 hr
   exact⟨m,h',hm⟩
theorem b4C:∀i∈([22]:List Nat),i<24∧Tryz.prog.readableRec (tm i)=true∧tm i<Tryz.prog.types.size:=λi hi=>d1e i (by simp at hi; omega)
theorem c4I (w:World):laidMetH Tryz.prog [] w:=⟨[],rfl,List.nodup_nil,λ_ _ h=>by cases h⟩
theorem b1p (os:Os) (started:os.Started) (H:Type) (enc:TypeId×Value→H) (F:Stop.Interp):
  ReturnsInHanded {} Tryz.checked os 7 .any ((Rows.OpenSpec.upto Rows.causeTurnedSpec).preRow enc Tryz.prog Tryz.f7 [] false []) (((Rows.OpenSpec.upto Rows.causeTurnedSpec).at F).post enc Tryz.prog Tryz.f7 false true false false):=by
 refine returnsInHanded_of_row (C:=Tryz.checked) (s:=Rows.OpenSpec.upto Rows.causeTurnedSpec) own started (by kernel_rfl) Tryz.func7
  (witness_row_at (enc:=enc) (C:=Tryz.checked) (os:=os) (s:=Rows.OpenSpec.upto Rows.causeTurnedSpec) false (World.laidAll Tryz.prog os []) #[.agg #[.slice none 0 0,.slice none 0 0]] (World.laidAll_os _ _ _) (by kernel_rfl) (by kernel_rfl) (by kernel_rfl)
   ⟨⟨(OpenSpec.pre_some (k:=Rows.uptoSmall) rfl [] false _ _).2 ⟨[.agg [.nil,.nil]],[],[],(DataW.Whole_of_whole (fuel:=8) (x:=(([.agg [.nil,.nil]]:List (DataW H)),([]:List (DataW H)),([]:List MemPlace))) (by kernel_rfl)),rfl,by kernel_rfl⟩,c4I _⟩,sizedMet_of_sizedB (s:=Rows.causeTurnedSpec) (fuel:=8) (by kernel_rfl)⟩) ?_
 intro W base args ds gs before ey hW _ hk jb _ _ _
 exact b9q (s:=Rows.causeTurnedSpec) (base':=base) (N:=N0 par) (D:=D) (tm:=tm) (n:=24) (k:=196) (idxs:=[22]) (tb:=4) (Lf _) rfl mixed lib (λt h=>by cases h) (λt h=>by cases h) c4G c7w (by kernel_rfl) b4C rfl Tryz.underlying4 (by kernel_rfl)
  (λds hl=>by match ds,hl with | [_],_=>rfl) ey hW jb (λpvs h hw=>b4B pvs h (c4H (hk _ rfl) hw))
theorem causeTurned_holds:Rows.CauseTurnedUptoSaid:=
 OpenClaim.holds_of_cond 7 Tryz.f7 rfl rfl rfl rfl rfl rfl rfl ⟨rfl,rfl,rfl,rfl,rfl⟩ rfl rfl rfl rfl rfl (by kernel_rfl) Tryz.func7 (by kernel_rfl)
  (of_decide_eq_true (by kernel_rfl)) (by unfold Func.isWrapper; first|(rw[ai (by decide +kernel)]; kernel_rfl)|(rw[ae (by decide +kernel)]; exact⟨rfl,rfl⟩))
  (λos started H enc _ F=>by rw[OpenClaim.pre_eq_preRow]; exact b1p os started H enc F)
#print axioms causeTurned_holds
end Go.Proofs.YtljbhgpanekomaaGreat.Pi
