/-
  CauseChecks (the first causality error of every program, and its place, are those of the chapter) holds of the translated program where what it reads is of bulk at most 1048576: the law returns true and leaves its arguments as they were. No further condition; proved by way of a pure interpreter that is shown to be sound for the machine.
-/
import Derived.Test.YtljbhgpanekomaaGreatRows
import Derived.Test.YtljbhgpanekomaaGreatPiCeSeat
import Derived.Test.YtljbhgpanekomaaGreatPiCePlain
import Derived.Test.YtljbhgpanekomaaGreatPiPrimSortF
import Derived.Test.YtljbhgpanekomaaGreatPiCeChecks
import Derived.Test.YtljbhgpanekomaaGreatPiClose
import Derived.Test.YtljbhgpanekomaaGreatPiLaw
import Derived.Test.YtljbhgpanekomaaGreatPiClose
import Derived.Test.YtljbhgpanekomaaGreatPiClose
import Derived.Test.YtljbhgpanekomaaGreatPiPrimSortF
import Derived.Test.YtljbhgpanekomaaGreatPiClose
import Derived.WalkKit
import Derived.ProofKit
import Derived.OpenShut
import Derived.SizedLaws
import Derived.Handed
import Derived.Lay
import Derived.LaidSub
import Derived.Lib.LaidTab
import Derived.Stop.LaidErr
import Derived.SevenTiedAt
import Derived.Deep.DeepHandedRow
set_option maxRecDepth 100000
set_option linter.unusedVariables false
namespace Go.Proofs.YtljbhgpanekomaaGreat.Pi
open Go.ChangeShapes Go.WideShapes Go.ChangeAt Go.RowKit PI PI.Sc
theorem own:ownKnob Tryz.prog.godebug=none:=by kernel_rfl
def tm(i:Nat):TypeId:=([9,3,50,77,22,100,56,58,42,52,45,54,43,4,238,164,166,130,44,128,47,23,25]:List Nat).getD i 5
theorem c8I:(List.range 24).all (λi=>IL Tryz.prog D tm 24 i)=true:=by kernel_rfl
theorem c8J:∀i,i<24->IL Tryz.prog D tm 24 i=true:=by intro i hi;exact bz.1 c8I i (by simpa using hi)
theorem d1G:laidOutB Tryz.prog=true:=by kernel_rfl
theorem d1H:(List.range 24).all (λi=>Tryz.prog.readableRec (tm i)&&decide (tm i<Tryz.prog.types.size))=true:=by kernel_rfl
theorem d5m(i:Nat)(hi:i<24):i<24/\Tryz.prog.readableRec (tm i)=true/\tm i<Tryz.prog.types.size:=by have:=bz.1 d1H i (by simpa using hi);simp only[ar,am]at this;exact⟨hi,this⟩
def par:Ps:=⟨[],[],0⟩
theorem rec27(p:Ps):IM (N0 p) Tryz.prog 27 (Gz 1):=by refine Vh (E:=E.opt {hs:=[0,1],sr:=true}) ((P9 p).opt _) rfl mixed rfl (fn:=Tryz.f31) (tA:=20) (T:=70) Tryz.func31 rfl rfl rfl ⟨_,rfl⟩ rfl rfl rfl rfl rfl rfl rfl (by kernel_rfl) (by kernel_rfl) rfl (by kernel_rfl) rfl (by kernel_rfl) (by kernel_rfl)
theorem rec48(p:Ps):IM (N0 p) Tryz.prog 48 (Gz 2):=by refine Vh (E:=E.opt {hs:=[0,1],sr:=true}) ((P9 p).opt _) rfl mixed rfl (fn:=Tryz.f59) (tA:=20) (T:=113) Tryz.func59 rfl rfl rfl ⟨_,rfl⟩ rfl rfl rfl rfl rfl rfl rfl (by kernel_rfl) (by kernel_rfl) rfl (by kernel_rfl) rfl (by kernel_rfl) (by kernel_rfl)
theorem d9r(p:Ps):IP (N0 p) Tryz.prog 218 (IQ 219):=c9Q (ρ:=Tryz.sortEdge_ren) (by kernel_rfl) Tryz.sortEdge Tryz.isAgg49 Tryz.sizeOf49 (enters_of Tryz.func50 (by kernel_rfl) rfl) c8N
theorem lib:∀k a,LS k=some a->FnS E (N0 par) k a:=d9O (h39:=d2Q (ρ:=Tryz.lays189_ren) (by kernel_rfl) Tryz.lays189) (h183:=c1a (ρ:=Tryz.lays217_ren) (by kernel_rfl) Tryz.lays217) (h218:=d9r _) (h27:=rec27 _) (h48:=rec48 _)
mutual theorem Ni{H:Type}:∀d:DataW H,Rows.uptoBulk d=D5 d|.lit x=>by cases x<;>rfl|.nil=>rfl|.ptr d=>by simp only[Rows.uptoBulk,D5,Ni d]|.slice es sp=>by simp only[Rows.uptoBulk,D5,Lk es,Lk sp]|.agg ps=>by simp only[Rows.uptoBulk,D5,Lk ps]|.iface _ d=>by simp only[Rows.uptoBulk,D5,Ni d]|.map es=>by simp only[Rows.uptoBulk,D5,Vi es]|.held _=>rfl theorem Lk{H:Type}:∀ds:List (DataW H),Rows.uptoBulkAll ds=GQ ds|[]=>rfl|d::r=>by simp only[Rows.uptoBulkAll,GQ,Ni d,Lk r]theorem Vi{H:Type}:∀ds:List (Lit×DataW H),Rows.uptoBulkEntries ds=Nj ds|[]=>rfl|x::r=>by simp only[Rows.uptoBulkEntries,Nj,c59 x,Vi r]theorem c59{H:Type}:∀x:Lit×DataW H,Rows.uptoBulkEntry x=Qa x|(l,d)=>by cases l<;>simp only[Rows.uptoBulkEntry,Qa,Ni d]end
theorem c8K{H:Type}{b:List (DataW H)}{a:List PV}(c:Rows.uptoSmall H b=true)(h:wts a<=GQ b):wts a<=1048576:=by have:Rows.uptoBulkAll b<=1048576:=of_decide_eq_true c;rw[Lk]at this;omega
theorem b7L(a:List PV)(h:Ll D [22] a)(d:wts a<=1048576):∃m b,call LS m 245 a []=some (.bool true,b):=by match a,h with|[p],h=>obtain⟨x,rfl,c⟩:=d2u p h.1;simp only[wts]at d;have g:=d2x x;obtain⟨b,f⟩:=b7K x (c.pw (by omega)) (by omega);obtain⟨m,e⟩:=Gi.1 f;exact⟨m,b,e⟩
theorem b7M:∀i∈([22]:List Nat),i<24/\Tryz.prog.readableRec (tm i)=true/\tm i<Tryz.prog.types.size:=λi hi=>d5m i (by simp at hi;omega)
theorem c8L(w:World):laidMetH Tryz.prog [] w:=⟨[],rfl,eU,λ_ _ h=>by cases h⟩
theorem b31(os:Os)(a:os.Started)(H:Type)(enc:TypeId×Value->H)(F:Stop.Interp):ReturnsInHanded {} Tryz.checked os 3 .any ((Rows.OpenSpec.upto Rows.causeChecksSpec).preRow enc Tryz.prog Tryz.f3 [] false []) (((Rows.OpenSpec.upto Rows.causeChecksSpec).at F).post enc Tryz.prog Tryz.f3 false true false false):=by refine returnsInHanded_of_row (C:=Tryz.checked) (s:=Rows.OpenSpec.upto Rows.causeChecksSpec) own a (by kernel_rfl) Tryz.func3 (witness_row_at (enc:=enc) (C:=Tryz.checked) (os:=os) (s:=Rows.OpenSpec.upto Rows.causeChecksSpec) false (World.laidAll Tryz.prog os []) #[.agg #[.slice none 0 0,.slice none 0 0]] (World.laidAll_os _ _ _) (by kernel_rfl) (by kernel_rfl) (by kernel_rfl) ⟨⟨(OpenSpec.pre_some (k:=Rows.uptoSmall) rfl [] false _ _).2 ⟨[.agg [.nil,.nil]],[],[],(DataW.Whole_of_whole (fuel:=8) (x:=(([.agg [.nil,.nil]]:List (DataW H)),([]:List (DataW H)),([]:List MemPlace))) (by kernel_rfl)),rfl,by kernel_rfl⟩,c8L _⟩,sizedMet_of_sizedB (s:=Rows.causeChecksSpec) (fuel:=8) (by kernel_rfl)⟩) ?_;intro W b args d gs before j l _ e g _ _ _;exact c2J (s:=Rows.causeChecksSpec) (base':=b) (N:=N0 par) (D:=D) (tm:=tm) (n:=24) (k:=245) (idxs:=[22]) (tb:=4) (P9 _) rfl mixed lib (λt h=>by cases h) (λt h=>by cases h) c8J d1G (by kernel_rfl) b7M rfl Tryz.underlying4 (by kernel_rfl) (λd f=>by match d,f with|[_],_=>rfl) j l g (λc h i=>b7L c h (c8K (e _ rfl) i))
theorem causeChecks_holds:Rows.CauseChecksUptoSaid:=OpenClaim.holds_of_cond 3 Tryz.f3 rfl rfl rfl rfl rfl rfl rfl ⟨rfl,rfl,rfl,rfl,rfl⟩ rfl rfl rfl rfl rfl (by kernel_rfl) Tryz.func3 (by kernel_rfl) (of_decide_eq_true (by kernel_rfl)) (by unfold Func.isWrapper;first|(rw[af (by decide+kernel)];kernel_rfl)|(rw[ah (by decide+kernel)];exact⟨rfl,rfl⟩)) (λos a H b _ F=>by rw[OpenClaim.pre_eq_preRow];exact b31 os a H b F)
#print axioms causeChecks_holds
end Go.Proofs.YtljbhgpanekomaaGreat.Pi
