/-
  CauseDelays (what is delayed creates no dependency) holds of the translated program where what it reads is of bulk at most 1048576: the law returns true and leaves its arguments as they were. No further condition; proved by way of a pure interpreter that is shown to be sound for the machine.
-/
import Derived.Test.YtljbhgpanekomaaGreatRows
import Derived.Test.YtljbhgpanekomaaGreatPiCaSeat
import Derived.Test.YtljbhgpanekomaaGreatPiCaPlain
import Derived.Test.YtljbhgpanekomaaGreatPiPrimSortF
import Derived.Test.YtljbhgpanekomaaGreatPiCaAwake
import Derived.Test.YtljbhgpanekomaaGreatPiCaSh
import Derived.Test.YtljbhgpanekomaaGreatPiRec
import Derived.Test.YtljbhgpanekomaaGreatPiPrimOK
import Derived.Test.YtljbhgpanekomaaGreatPiPrimOK
import Derived.Test.YtljbhgpanekomaaGreatPiPrimSortF
import Derived.Test.YtljbhgpanekomaaGreatPiClose
import Derived.WalkKit
import Derived.ProofKit
import Derived.OpenShut
import Derived.SizedLaws
import Derived.Handed
import Derived.Lay
import Derived.LaidSub
import Derived.Lib.LaidTab
import Derived.Stop.LaidErr
import Derived.SevenTiedAt
import Derived.Deep.DeepHandedRow
set_option maxRecDepth 100000
set_option linter.unusedVariables false
namespace Go.Proofs.YtljbhgpanekomaaGreat.Pi
open Go.ChangeShapes Go.WideShapes Go.ChangeAt Go.RowKit PI PI.Sc
theorem own:ownKnob Tryz.prog.godebug=none:=by kernel_rfl
def tm (i:Nat):TypeId:=([9,3,50,77,22,100,56,58,42,52,45,54,43,4,238,164,166,130,44,128,47,23,25]:List Nat).getD i 5
theorem c3B:(List.range 24).all (λi=>CJ Tryz.prog D tm 24 i)=true:=by kernel_rfl
theorem c3C:∀i,i<24→CJ Tryz.prog D tm 24 i=true:=by
 intro i hi
 exact aK.1 c3B i (by simpa using hi)
theorem c6w:laidOutB Tryz.prog=true:=by kernel_rfl
theorem c6x:(List.range 24).all (λi=>Tryz.prog.readableRec (tm i)&&decide (tm i<Tryz.prog.types.size))=true:=by kernel_rfl
theorem d0d (i:Nat) (hi:i<24):i<24∧Tryz.prog.readableRec (tm i)=true∧tm i<Tryz.prog.types.size:=by
 have:=aK.1 c6x i (by simpa using hi)
 simp only[ak,aw] at this
 exact⟨hi,this⟩
def par:Ps:=⟨[],[],0⟩
theorem rec27 (p:Ps):CK (N0 p) Tryz.prog 27 (AZ 1):=by
 refine Mx (E:=E.opt { hs:=[0,1],sr:=true }) ((I1 p).opt _) rfl mixed rfl (fn:=Tryz.f31) (tA:=20) (T:=70) Tryz.func31 rfl rfl rfl ⟨_,rfl⟩ rfl rfl rfl rfl rfl rfl rfl (by kernel_rfl) (by kernel_rfl) rfl (by kernel_rfl) rfl (by kernel_rfl) (by kernel_rfl)
theorem rec48 (p:Ps):CK (N0 p) Tryz.prog 48 (AZ 2):=by
 refine Mx (E:=E.opt { hs:=[0,1],sr:=true }) ((I1 p).opt _) rfl mixed rfl (fn:=Tryz.f59) (tA:=20) (T:=113) Tryz.func59 rfl rfl rfl ⟨_,rfl⟩ rfl rfl rfl rfl rfl rfl rfl (by kernel_rfl) (by kernel_rfl) rfl (by kernel_rfl) rfl (by kernel_rfl) (by kernel_rfl)
theorem d4e (p:Ps):CL (N0 p) Tryz.prog 218 (CM 219):=
 c4z (ρ:=Tryz.sortEdge_ren) (by kernel_rfl) Tryz.sortEdge Tryz.isAgg49 Tryz.sizeOf49 (enters_of Tryz.func50 (by kernel_rfl) rfl) c3G
theorem lib:∀k pf,LS k=some pf→FnS E (N0 par) k pf:=
 d4t (h39:=c7B (ρ:=Tryz.lays189_ren) (by kernel_rfl) Tryz.lays189)
  (h183:=b7h (ρ:=Tryz.lays217_ren) (by kernel_rfl) Tryz.lays217) (h218:=d4e _) (h27:=rec27 _) (h48:=rec48 _)
mutual
theorem GG {H:Type}:∀d:DataW H,Rows.uptoBulk d=yz d
 | .lit x=>by cases x<;>rfl
 | .nil=>rfl
 | .ptr d=>by simp only[Rows.uptoBulk,yz,GG d]
 | .slice es sp=>by simp only[Rows.uptoBulk,yz,E3 es,E3 sp]
 | .agg ps=>by simp only[Rows.uptoBulk,yz,E3 ps]
 | .iface _ d=>by simp only[Rows.uptoBulk,yz,GG d]
 | .map es=>by simp only[Rows.uptoBulk,yz,My es]
 | .held _=>rfl
theorem E3 {H:Type}:∀ds:List (DataW H),Rows.uptoBulkAll ds=Bh ds
 | []=>rfl
 | d::r=>by simp only[Rows.uptoBulkAll,Bh,GG d,E3 r]
theorem My {H:Type}:∀ds:List (Lit×DataW H),Rows.uptoBulkEntries ds=GH ds
 | []=>rfl
 | x::r=>by simp only[Rows.uptoBulkEntries,GH,c1t x,My r]
theorem c1t {H:Type}:∀x:Lit×DataW H,Rows.uptoBulkEntry x=I2 x
 | (l,d)=>by cases l<;>simp only[Rows.uptoBulkEntry,I2,GG d]
end
theorem c3D {H:Type} {ds:List (DataW H)} {pvs:List PV} (hk:Rows.uptoSmall H ds=true) (h:wts pvs≤Bh ds):wts pvs≤1048576:=by
 have:Rows.uptoBulkAll ds≤1048576:=of_decide_eq_true hk
 rw[E3] at this
 omega
theorem b4o (pvs:List PV) (h:E4 D [22,23] pvs) (hw:wts pvs≤1048576):∃m h',call LS m 195 pvs []=some (.bool true,h'):=by
 match pvs,h with
 | [p, q], h =>
   obtain⟨x,rfl,hx⟩:=c7d p h.1
   obtain⟨y,rfl,hy⟩:=d4v q h.2.1
   simp only[wts] at hw
   have hp:=c7g x
   obtain⟨h',hr⟩:=b4s x (hx.pw (by omega)) (by omega) y hy
   obtain⟨m,hm⟩:=At.1 hr
   exact⟨m,h',hm⟩
theorem b4p:∀i∈([22,23]:List Nat),i<24∧Tryz.prog.readableRec (tm i)=true∧tm i<Tryz.prog.types.size:=λi hi=>d0d i (by simp at hi; omega)
theorem c3E (w:World):laidMetH Tryz.prog [] w:=⟨[],rfl,List.nodup_nil,λ_ _ h=>by cases h⟩
theorem b0X (os:Os) (started:os.Started) (H:Type) (enc:TypeId×Value→H) (F:Stop.Interp):
  ReturnsInHanded {} Tryz.checked os 6 .any ((Rows.OpenSpec.upto Rows.causeDelaysSpec).preRow enc Tryz.prog Tryz.f6 [] false []) (((Rows.OpenSpec.upto Rows.causeDelaysSpec).at F).post enc Tryz.prog Tryz.f6 false true false false):=by
 refine returnsInHanded_of_row (C:=Tryz.checked) (s:=Rows.OpenSpec.upto Rows.causeDelaysSpec) own started (by kernel_rfl) Tryz.func6
  (witness_row_at (enc:=enc) (C:=Tryz.checked) (os:=os) (s:=Rows.OpenSpec.upto Rows.causeDelaysSpec) false (World.laidAll Tryz.prog os []) #[.agg #[.slice none 0 0,.slice none 0 0],.int .u8 0] (World.laidAll_os _ _ _) (by kernel_rfl) (by kernel_rfl) (by kernel_rfl)
   ⟨⟨(OpenSpec.pre_some (k:=Rows.uptoSmall) rfl [] false _ _).2 ⟨[.agg [.nil,.nil],.lit (.int .u8 0)],[],[],(DataW.Whole_of_whole (fuel:=8) (x:=(([.agg [.nil,.nil],.lit (.int .u8 0)]:List (DataW H)),([]:List (DataW H)),([]:List MemPlace))) (by kernel_rfl)),rfl,by kernel_rfl⟩,c3E _⟩,sizedMet_of_sizedB (s:=Rows.causeDelaysSpec) (fuel:=8) (by kernel_rfl)⟩) ?_
 intro W base args ds gs before em hW _ hk iH _ _ _
 exact b8J (s:=Rows.causeDelaysSpec) (base':=base) (N:=N0 par) (D:=D) (tm:=tm) (n:=24) (k:=195) (idxs:=[22,23]) (tb:=4) (I1 _) rfl mixed lib (λt h=>by cases h) (λt h=>by cases h) c3C c6w (by kernel_rfl) b4p rfl Tryz.underlying4 (by kernel_rfl)
  (λds hl=>by match ds,hl with | [_,_],_=>rfl) em hW iH (λpvs h hw=>b4o pvs h (c3D (hk _ rfl) hw))
theorem causeDelays_holds:Rows.CauseDelaysUptoSaid:=
 OpenClaim.holds_of_cond 6 Tryz.f6 rfl rfl rfl rfl rfl rfl rfl ⟨rfl,rfl,rfl,rfl,rfl⟩ rfl rfl rfl rfl rfl (by kernel_rfl) Tryz.func6 (by kernel_rfl)
  (of_decide_eq_true (by kernel_rfl)) (by unfold Func.isWrapper; first|(rw[ah (by decide +kernel)]; kernel_rfl)|(rw[af (by decide +kernel)]; exact⟨rfl,rfl⟩))
  (λos started H enc _ F=>by rw[OpenClaim.pre_eq_preRow]; exact b0X os started H enc F)
#print axioms causeDelays_holds
end Go.Proofs.YtljbhgpanekomaaGreat.Pi
