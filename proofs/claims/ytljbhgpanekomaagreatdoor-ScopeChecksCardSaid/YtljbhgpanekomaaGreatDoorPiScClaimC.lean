/-
  ScopeChecks (the first error in the names of any program) holds of the translated program: the law returns true and leaves its arguments as they were. No further condition; proved by way of a pure interpreter that is shown to be sound for the machine.
-/
import Derived.Test.YtljbhgpanekomaaGreatDoorTie
import Derived.Test.YtljbhgpanekomaaGreatDoorCards
import Derived.Test.YtljbhgpanekomaaGreatDoorPiScSeat
import Derived.Test.YtljbhgpanekomaaGreatDoorPiScPlain
import Derived.Test.YtljbhgpanekomaaGreatDoorPiScRun29
import Derived.Test.YtljbhgpanekomaaGreatDoorPiScSh
import Derived.Test.YtljbhgpanekomaaGreatDoorPiPrimOK
import Derived.Test.YtljbhgpanekomaaGreatDoorPiPrimOK
import Derived.Test.YtljbhgpanekomaaGreatDoorPiClose
import Derived.WalkKit
import Derived.ProofKit
import Derived.OpenShut
import Derived.SizedLaws
import Derived.Handed
import Derived.Lay
import Derived.LaidSub
import Derived.Lib.LaidTab
import Derived.Stop.LaidErr
import Derived.SevenTiedAt
import Derived.Deep.DeepHandedRow
set_option maxRecDepth 100000
set_option linter.unusedVariables false
namespace Go.Proofs.YtljbhgpanekomaaGreatDoor.Pi
open Go.ChangeShapes Go.WideShapes Go.ChangeAt Go.RowKit PI PI.Sc
theorem own:ownKnob Tryz.prog.godebug=none:=by kernel_rfl
def tm (i:Nat):TypeId:=([9,3,42,70,22,81,52,54,34,57,38,59,36,4,179,138,140,121,37,119,40,23]:List Nat).getD i 25
theorem c3Y:(List.range 23).all (λi=>CN Tryz.prog D tm 23 i)=true:=by kernel_rfl
theorem c3Z:∀i,i<23→CN Tryz.prog D tm 23 i=true:=by
 intro i hi
 exact aD.1 c3Y i (by simpa using hi)
theorem c6p:laidOutB Tryz.prog=true:=by kernel_rfl
theorem c6q:(List.range 23).all (λi=>Tryz.prog.readableRec (tm i)&&decide (tm i<Tryz.prog.types.size))=true:=by kernel_rfl
theorem c9L (i:Nat) (hi:i<23):i<23∧Tryz.prog.readableRec (tm i)=true∧tm i<Tryz.prog.types.size:=by
 have:=aD.1 c6q i (by simpa using hi)
 simp only[al,ak] at this
 exact⟨hi,this⟩
def Bm:List (String×DataW Unit):=[("math/bits.deBruijn32tab",Rows.laid_math_bits_deBruijn32tab),("math/bits.deBruijn64tab",Rows.laid_math_bits_deBruijn64tab),("internal/strconv.uint64pow10",Rows.laid_internal_strconv_uint64pow10)]
theorem NK:(Bm.filter λx=>x.2.handleName?.isSome)=[]:=by kernel_rfl
theorem c6r {w:World} (h:laidMetH Tryz.prog Bm w):laidMet Tryz.prog Bm w:=by
 unfold laidMetH at h
 rw[NK] at h
 exact h
theorem c6s {w:World} (h:laidMet Tryz.prog Bm w):laidMetH Tryz.prog Bm w:=by
 unfold laidMetH
 rw[NK]
 exact h
theorem gP:Tryz.prog.globalNamed "internal/strconv.uint64pow10" = some 0:=by kernel_rfl
theorem c30 {W:World} {name:String} {g:Nat} {cs:Array Value} (hg:Tryz.prog.globalNamed name=some g) (h:W.var? Tryz.prog name=some cs):∃T fz,W.heap[g]? = some (.cells cs T fz):=by
 unfold World.var? at h
 rw[hg] at h
 simp only[ar] at h
 split at h
 ·rename_i c T fz hh
  simp at h; subst h
  exact⟨T,fz,hh⟩
 ·simp at h
theorem c9M {w:World} {name:String} {g:Nat} {vs:List Value} {T:TypeId} (hg:Tryz.prog.globalNamed name=some g) (hs:w.shape? g=some (T,vs.length)) (hc:∀(i:Nat) (v:Value),vs[i]? = some v→w.cell? ⟨g,i,none⟩=some v):w.var? Tryz.prog name=some vs.toArray:=by
 unfold World.shape? at hs
 unfold World.var?
 rw[hg]
 simp only[ar]
 split at hs
 ·rename_i c T' fz hh
  simp at hs
  rw[hh]
  simp only[aa]
  apply Array.ext
  ·simpa using hs.2
  ·intro i h1 h2
   have h3:=hc i vs[i] (by simp)
   simp only[World.cell?,hh] at h3
   simp[h1] at h3
   simpa using h3
 ·simp at hs
def G6:List Value:=Lib.pow10Tab.map λz=>Value.int .u64 z
def Ft:List (Nat×Nat×Value):=G6.mapIdx λi v=>(0,i,v)
def par (a:TypeId):Ps:=⟨Ft,[(0,a,20)],0⟩
structure Held (W:World) (a:TypeId):Prop where
 cells:∀t∈(par a).tabs,W.cell? ⟨t.1,t.2.1,none⟩=some t.2.2
 rows:∀r∈(par a).rows,W.shape? r.1=some r.2
theorem held {W:World} (h:laidMet Tryz.prog Bm W):∃a,Held W a:=by
 have h1:Lib.TabIs Tryz.prog W "internal/strconv.uint64pow10" .u64 Lib.pow10Tab:=
  Lib.tabIs_of_head gP (by kernel_rfl) (show Tryz.prog.underlying 232=some (.array 20 193) by kernel_rfl) (show Tryz.prog.underlying 193=some (.int .u64) by kernel_rfl) (by kernel_rfl) (by kernel_rfl) h.tail.tail
 obtain⟨a,fa,ha⟩:=c30 gP h1
 refine⟨a,⟨?_,?_⟩⟩
 ·intro t ht
  have ht:t∈Ft:=ht
  rw[Ft] at ht
  obtain⟨i,hi,rfl⟩:=List.mem_mapIdx.1 ht
  simp only[World.cell?,ha]
  have:(Lib.pow10Tab.map λz=>Value.int .u64 z)=G6:=rfl
  rw[this]
  simp
 ·intro r hr
  obtain rfl:r=(0,a,20):=by simpa[par] using hr
  simp only[World.shape?,ha]; rfl
theorem c6t {a:TypeId} {w:World} {fix:Nat→Nat→Prop} (h:Tab (N0 (par a)) w fix):Lib.TabIs Tryz.prog w "internal/strconv.uint64pow10" .u64 Lib.pow10Tab:=by
 have hs:w.shape? 0=some (a,G6.length):=h.2 (0,a,20) (by show (0,a,20)∈[((0:Nat),a,20)]; simp)
 refine c9M gP hs ?_
 intro i v hv
 refine(h.1 (0,i,v) ?_).2
 show (0,i,v)∈Ft
 rw[Ft]
 obtain⟨hi,dN⟩:=aj.1 (show G6[i]? = some v from hv)
 exact List.mem_mapIdx.2 ⟨i,hi,by rw[dN]⟩
theorem rec27 (p:Ps):CY (N0 p) Tryz.prog 27 (A0 1):=by
 refine Nc (E:=E.opt { hs:=[0,1],sr:=true }) ((JE p).opt _) rfl mixed rfl (fn:=Tryz.f30) (tA:=20) (T:=63) Tryz.func30 rfl rfl rfl ⟨_,rfl⟩ rfl rfl rfl rfl rfl rfl rfl (by kernel_rfl) (by kernel_rfl) rfl (by kernel_rfl) rfl (by kernel_rfl) (by kernel_rfl)
theorem rec48 (p:Ps):CY (N0 p) Tryz.prog 48 (A0 2):=by
 refine Nc (E:=E.opt { hs:=[0,1],sr:=true }) ((JE p).opt _) rfl mixed rfl (fn:=Tryz.f54) (tA:=20) (T:=100) Tryz.func54 rfl rfl rfl ⟨_,rfl⟩ rfl rfl rfl rfl rfl rfl rfl (by kernel_rfl) (by kernel_rfl) rfl (by kernel_rfl) rfl (by kernel_rfl) (by kernel_rfl)
theorem lib {a:TypeId}:∀k pf,LS k=some pf→FnS E (N0 (par a)) k pf:=
 d3K (h39:=c6h (ρ:=Tryz.lays189_ren) (by kernel_rfl) Tryz.lays189)
  (h44:=c6g (ρ:=Tryz.laysM171_ren) (by kernel_rfl) Tryz.laysM171 (λ_ _ h=>c6t h))
  (h183:=b7e (ρ:=Tryz.lays217_ren) (by kernel_rfl) Tryz.lays217) (h27:=rec27 _) (h48:=rec48 _)
theorem b40 (pvs:List PV) (h:ES D [22] pvs):∃m h',call LS m 0 pvs []=some (.bool true,h'):=by
 match pvs,h with
 | [p], h =>
   obtain⟨x,rfl,hx⟩:=c69 p h.1
   obtain⟨h',hr⟩:=c0J x hx
   obtain⟨m,hm⟩:=BL.1 hr
   exact⟨m,h',hm⟩
theorem b41:∀i∈([22]:List Nat),i<23∧Tryz.prog.readableRec (tm i)=true∧tm i<Tryz.prog.types.size:=λi hi=>c9L i (by simp at hi; omega)
theorem c31 (os:Os) (args:Array Value):laidMetH Tryz.prog Bm ((World.laidAll Tryz.prog os Bm).forCall (λ_ _=>0) ⟨#[],args,[]⟩).memory:=
 c6s (laidMet_laidAll args (by kernel_rfl) (by kernel_rfl))
theorem b1I (os:Os) (started:os.Started) (H:Type) (enc:TypeId×Value→H):
  ReturnsInHanded {} Tryz.checked os 3 .any (λw args=>(Rows.scopeChecksSpec.pre enc Tryz.prog Tryz.f3 [] false w args∧laidMetH Tryz.prog Bm w)∧sizedMet enc Tryz.prog Tryz.f3 (OpenSpec.ofChange Rows.scopeChecksSpec) false w args)
   (Rows.scopeChecksSpec.post enc Tryz.prog Tryz.f3 false true false false):=by
 refine returnsInHanded_of_change_and (C:=Tryz.checked) (X:=λw _=>laidMetH Tryz.prog Bm w) (λ_ _ _ hh h=>h.of_heap hh) own started (by kernel_rfl) Tryz.func3
  (ChangeSpec.witness_at (enc:=enc) (C:=Tryz.checked) (os:=os) (X:=λw _=>laidMetH Tryz.prog Bm w) false (World.laidAll Tryz.prog os Bm) #[.agg #[.slice none 0 0,.slice none 0 0]] 8 (World.laidAll_os _ _ _) (by kernel_rfl) (by kernel_rfl) (by kernel_rfl) (by kernel_rfl) (by kernel_rfl) (c31 os _)) ?_
 intro W base args ds gs before eh hW _ iV hL _
 obtain⟨a,hh⟩:=held (c6r hL)
 exact b8C (base':=base) (N:=N0 (par a)) (D:=D) (tm:=tm) (n:=23) (k:=0) (idxs:=[22]) (tb:=4) (JE _) rfl mixed lib hh.cells hh.rows c3Z c6p (by kernel_rfl) b41 rfl Tryz.underlying4 (by kernel_rfl)
  (λds hl=>by match ds,hl with | [_],_=>rfl) eh hW iV (λpvs h _=>b40 pvs h)
theorem b1J:Rows.ScopeChecksSaid:=
 OpenClaim.holds_of_wide 3 Tryz.f3 rfl rfl rfl rfl rfl rfl rfl ⟨rfl,rfl,rfl,rfl,rfl⟩ rfl rfl rfl rfl rfl (by kernel_rfl) Tryz.func3 (by kernel_rfl)
  (of_decide_eq_true (by kernel_rfl)) (by unfold Func.isWrapper; first|(rw[ah (by decide +kernel)]; kernel_rfl)|(rw[af (by decide +kernel)]; exact⟨rfl,rfl⟩))
  (λos started H enc _=>b1I os started H enc)
theorem scopeChecks_card:Rows.ScopeChecksCardSaid:=
 Claim7.holds_tied_plain_at .later [] [.data,.data,.data] true (true, "d751b228062792c25efd24a7f43c9b990f5b0ffd2ef28c347ac8acc5d960c19f") true
  b1J (λ_ h=>by cases h) (by kernel_rfl) (λ_ h=>by cases h) scopeChecks_row_tie rfl ⟨rfl,rfl⟩ (by kernel_rfl) rfl
  (λf fn hf eB=>by
   obtain rfl:f=3:=Option.some.inj ((show Tryz.prog.funcNamed "synchrony/synchronylaw10.ScopeChecks" = some 3 by kernel_rfl).symm.trans hf) |>.symm
   obtain rfl:fn=Tryz.f3:=(Option.some.inj (Tryz.func3.symm.trans eB)).symm
   exact⟨by kernel_rfl,λj t ht=>by
    have hp:Tryz.f3.params = #[25]:=by kernel_rfl
    rw[hp] at ht
    have h3:t=25:=by
     rcases j with _|j
     ·simpa using ht.symm
     ·simp at ht
    subst h3
    exact(show Tryz.prog.wantsStandIn 25=false by kernel_rfl)⟩)
  (by kernel_rfl)
#print axioms scopeChecks_card
end Go.Proofs.YtljbhgpanekomaaGreatDoor.Pi
