/-
  CauseEdges (the dependencies, and the order, of the equations of every node are those of the chapter) holds of the translated program where what it reads is of bulk at most 1048576: the law returns true and leaves its arguments as they were. No further condition; proved by way of a pure interpreter that is shown to be sound for the machine.
-/
import Derived.Test.YtljbhgpanekomaaGreatRows
import Derived.Test.YtljbhgpanekomaaGreatPiCeSeat
import Derived.Test.YtljbhgpanekomaaGreatPiCePlain
import Derived.Test.YtljbhgpanekomaaGreatPiPrimSortF
import Derived.Test.YtljbhgpanekomaaGreatPiCeR4
import Derived.Test.YtljbhgpanekomaaGreatPiCeR4
import Derived.Test.YtljbhgpanekomaaGreatPiLaw
import Derived.Test.YtljbhgpanekomaaGreatPiCeR4
import Derived.Test.YtljbhgpanekomaaGreatPiCeR4
import Derived.Test.YtljbhgpanekomaaGreatPiPrimSortF
import Derived.Test.YtljbhgpanekomaaGreatPiCeR4
import Derived.WalkKit
import Derived.ProofKit
import Derived.OpenShut
import Derived.SizedLaws
import Derived.Handed
import Derived.Lay
import Derived.LaidSub
import Derived.Lib.LaidTab
import Derived.Stop.LaidErr
import Derived.SevenTiedAt
import Derived.Deep.DeepHandedRow
set_option maxRecDepth 100000
set_option linter.unusedVariables false
namespace Go.Proofs.YtljbhgpanekomaaGreat.Pi
open Go.ChangeShapes Go.WideShapes Go.ChangeAt Go.RowKit PI PI.Sc
theorem own:ownKnob Tryz.prog.godebug=none:=by kernel_rfl
def tm(i:Nat):TypeId:=([9,3,50,77,22,100,56,58,42,52,45,54,43,4,238,164,166,130,44,128,47,23,25]:List Nat).getD i 5
theorem c8f:(List.range 24).all (λi=>G7 Tryz.prog D tm 24 i)=true:=by kernel_rfl
theorem c8g:∀i,i<24->G7 Tryz.prog D tm 24 i=true:=by intro i hi;exact bo.1 c8f i (by simpa using hi)
theorem d03:laidOutB Tryz.prog=true:=by kernel_rfl
theorem d04:(List.range 24).all (λi=>Tryz.prog.readableRec (tm i)&&decide (tm i<Tryz.prog.types.size))=true:=by kernel_rfl
theorem d4J(i:Nat)(hi:i<24):i<24/\Tryz.prog.readableRec (tm i)=true/\tm i<Tryz.prog.types.size:=by have:=bo.1 d04 i (by simpa using hi);simp only[aq,al]at this;exact⟨hi,this⟩
def par:Ps:=⟨[],[],0⟩
theorem rec27(p:Ps):G8 (N0 p) Tryz.prog 27 (E4 1):=by refine Tq (E:=E.opt {hs:=[0,1],sr:=true}) ((Ok p).opt _) rfl mixed rfl (fn:=Tryz.f31) (tA:=20) (T:=70) Tryz.func31 rfl rfl rfl ⟨_,rfl⟩ rfl rfl rfl rfl rfl rfl rfl (by kernel_rfl) (by kernel_rfl) rfl (by kernel_rfl) rfl (by kernel_rfl) (by kernel_rfl)
theorem rec48(p:Ps):G8 (N0 p) Tryz.prog 48 (E4 2):=by refine Tq (E:=E.opt {hs:=[0,1],sr:=true}) ((Ok p).opt _) rfl mixed rfl (fn:=Tryz.f59) (tA:=20) (T:=113) Tryz.func59 rfl rfl rfl ⟨_,rfl⟩ rfl rfl rfl rfl rfl rfl rfl (by kernel_rfl) (by kernel_rfl) rfl (by kernel_rfl) rfl (by kernel_rfl) (by kernel_rfl)
theorem d8F(p:Ps):G9 (N0 p) Tryz.prog 218 (Ha 219):=c9j (ρ:=Tryz.sortEdge_ren) (by kernel_rfl) Tryz.sortEdge Tryz.isAgg49 Tryz.sizeOf49 (enters_of Tryz.func50 (by kernel_rfl) rfl) c8k
theorem lib:∀k pf,LS k=some pf->FnS E (N0 par) k pf:=d8Z (h39:=d2f (ρ:=Tryz.lays189_ren) (by kernel_rfl) Tryz.lays189) (h183:=c0O (ρ:=Tryz.lays217_ren) (by kernel_rfl) Tryz.lays217) (h218:=d8F _) (h27:=rec27 _) (h48:=rec48 _)
mutual theorem LJ{H:Type}:∀d:DataW H,Rows.uptoBulk d=CE d|.lit x=>by cases x<;>rfl|.nil=>rfl|.ptr d=>by simp only[Rows.uptoBulk,CE,LJ d]|.slice es sp=>by simp only[Rows.uptoBulk,CE,JM es,JM sp]|.agg ps=>by simp only[Rows.uptoBulk,CE,JM ps]|.iface _ d=>by simp only[Rows.uptoBulk,CE,LJ d]|.map es=>by simp only[Rows.uptoBulk,CE,Tr es]|.held _=>rfl theorem JM{H:Type}:∀ds:List (DataW H),Rows.uptoBulkAll ds=Fl ds|[]=>rfl|d::r=>by simp only[Rows.uptoBulkAll,Fl,LJ d,JM r]theorem Tr{H:Type}:∀ds:List (Lit×DataW H),Rows.uptoBulkEntries ds=LK ds|[]=>rfl|x::r=>by simp only[Rows.uptoBulkEntries,LK,c5G x,Tr r]theorem c5G{H:Type}:∀x:Lit×DataW H,Rows.uptoBulkEntry x=Ol x|(l,d)=>by cases l<;>simp only[Rows.uptoBulkEntry,Ol,LJ d]end
theorem c8h{H:Type}{ds:List (DataW H)}{pvs:List PV}(hk:Rows.uptoSmall H ds=true)(h:wts pvs<=Fl ds):wts pvs<=1048576:=by have:Rows.uptoBulkAll ds<=1048576:=of_decide_eq_true hk;rw[JM]at this;omega
theorem b8v(pvs:List PV)(h:JN D [22,1] pvs)(hw:wts pvs<=1048576):∃m h',call LS m 246 pvs []=some (.bool true,h'):=by match pvs,h with|[p,q],h=>obtain⟨x,rfl,hx⟩:=d1S p h.1;obtain⟨y,rfl,_⟩:=GB q h.2.1;simp only[wts]at hw;have hp:=d1V x;obtain⟨h',hr⟩:=b8z x (hx.pw (by omega)) (by omega) y;obtain⟨m,hm⟩:=EQ.1 hr;exact⟨m,h',hm⟩
theorem b8w:∀i∈([22,1]:List Nat),i<24/\Tryz.prog.readableRec (tm i)=true/\tm i<Tryz.prog.types.size:=λi hi=>d4J i (by simp at hi;omega)
theorem c8i(w:World):laidMetH Tryz.prog [] w:=⟨[],rfl,eK,λ_ _ h=>by cases h⟩
theorem b4Q(os:Os)(started:os.Started)(H:Type)(enc:TypeId×Value->H)(F:Stop.Interp):ReturnsInHanded {} Tryz.checked os 4 .any ((Rows.OpenSpec.upto Rows.causeEdgesSpec).preRow enc Tryz.prog Tryz.f4 [] false []) (((Rows.OpenSpec.upto Rows.causeEdgesSpec).at F).post enc Tryz.prog Tryz.f4 false true false false):=by refine returnsInHanded_of_row (C:=Tryz.checked) (s:=Rows.OpenSpec.upto Rows.causeEdgesSpec) own started (by kernel_rfl) Tryz.func4 (witness_row_at (enc:=enc) (C:=Tryz.checked) (os:=os) (s:=Rows.OpenSpec.upto Rows.causeEdgesSpec) false (World.laidAll Tryz.prog os []) #[.agg #[.slice none 0 0,.slice none 0 0],.int .i64 0] (World.laidAll_os _ _ _) (by kernel_rfl) (by kernel_rfl) (by kernel_rfl) ⟨⟨(OpenSpec.pre_some (k:=Rows.uptoSmall) rfl [] false _ _).2 ⟨[.agg [.nil,.nil],.lit (.int .i64 0)],[],[],(DataW.Whole_of_whole (fuel:=8) (x:=(([.agg [.nil,.nil],.lit (.int .i64 0)]:List (DataW H)),([]:List (DataW H)),([]:List MemPlace))) (by kernel_rfl)),rfl,by kernel_rfl⟩,c8i _⟩,sizedMet_of_sizedB (s:=Rows.causeEdgesSpec) (fuel:=8) (by kernel_rfl)⟩) ?_;intro W base args ds gs before gT hW _ hk lF _ _ _;exact c2k (s:=Rows.causeEdgesSpec) (base':=base) (N:=N0 par) (D:=D) (tm:=tm) (n:=24) (k:=246) (idxs:=[22,1]) (tb:=4) (Ok _) rfl mixed lib (λt h=>by cases h) (λt h=>by cases h) c8g d03 (by kernel_rfl) b8w rfl Tryz.underlying4 (by kernel_rfl) (λds hl=>by match ds,hl with|[_,_],_=>rfl) gT hW lF (λpvs h hw=>b8v pvs h (c8h (hk _ rfl) hw))
theorem causeEdges_holds:Rows.CauseEdgesUptoSaid:=OpenClaim.holds_of_cond 4 Tryz.f4 rfl rfl rfl rfl rfl rfl rfl ⟨rfl,rfl,rfl,rfl,rfl⟩ rfl rfl rfl rfl rfl (by kernel_rfl) Tryz.func4 (by kernel_rfl) (of_decide_eq_true (by kernel_rfl)) (by unfold Func.isWrapper;first|(rw[ah (by decide+kernel)];kernel_rfl)|(rw[ai (by decide+kernel)];exact⟨rfl,rfl⟩)) (λos started H enc _ F=>by rw[OpenClaim.pre_eq_preRow];exact b4Q os started H enc F)
#print axioms causeEdges_holds
end Go.Proofs.YtljbhgpanekomaaGreat.Pi
