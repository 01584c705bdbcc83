/-
  ScopeAdds (a further local with a fresh name) holds of the translated program: the law returns true and leaves its arguments as they were. No further condition; proved by way of a pure interpreter that is shown to be sound for the machine.
-/
import Derived.Test.YtljbhgpanekomaaGreatDoorTie
import Derived.Test.YtljbhgpanekomaaGreatDoorCards
import Derived.Test.YtljbhgpanekomaaGreatDoorPiScSeat
import Derived.Test.YtljbhgpanekomaaGreatDoorPiScPlain
import Derived.Test.YtljbhgpanekomaaGreatDoorPiScC4
import Derived.Test.YtljbhgpanekomaaGreatDoorPiScSh
import Derived.Test.YtljbhgpanekomaaGreatDoorPiPrimOK
import Derived.Test.YtljbhgpanekomaaGreatDoorPiPrimOK
import Derived.Test.YtljbhgpanekomaaGreatDoorPiClose
import Derived.WalkKit
import Derived.ProofKit
import Derived.OpenShut
import Derived.SizedLaws
import Derived.Handed
import Derived.Lay
import Derived.LaidSub
import Derived.Lib.LaidTab
import Derived.Stop.LaidErr
import Derived.SevenTiedAt
import Derived.Deep.DeepHandedRow
set_option maxRecDepth 100000
set_option linter.unusedVariables false
namespace Go.Proofs.YtljbhgpanekomaaGreatDoor.Pi
open Go.ChangeShapes Go.WideShapes Go.ChangeAt Go.RowKit PI PI.Sc
theorem own:ownKnob Tryz.prog.godebug=none:=by kernel_rfl
def tm (i:Nat):TypeId:=([9,3,42,70,22,81,52,54,34,57,38,59,36,4,179,138,140,121,37,119,40,23]:List Nat).getD i 25
theorem c2a:(List.range 23).all (λi=>Cy Tryz.prog D tm 23 i)=true:=by kernel_rfl
theorem c2b:∀i,i<23→Cy Tryz.prog D tm 23 i=true:=by
 intro i hi
 exact aD.1 c2a i (by simpa using hi)
theorem c4U:laidOutB Tryz.prog=true:=by kernel_rfl
theorem c4V:(List.range 23).all (λi=>Tryz.prog.readableRec (tm i)&&decide (tm i<Tryz.prog.types.size))=true:=by kernel_rfl
theorem c8m (i:Nat) (hi:i<23):i<23∧Tryz.prog.readableRec (tm i)=true∧tm i<Tryz.prog.types.size:=by
 have:=aD.1 c4V i (by simpa using hi)
 simp only[al,aq] at this
 exact⟨hi,this⟩
def A2:List (String×DataW Unit):=[("math/bits.deBruijn32tab",Rows.laid_math_bits_deBruijn32tab),("math/bits.deBruijn64tab",Rows.laid_math_bits_deBruijn64tab),("internal/strconv.uint64pow10",Rows.laid_internal_strconv_uint64pow10)]
theorem MO:(A2.filter λx=>x.2.handleName?.isSome)=[]:=by kernel_rfl
theorem c4W {w:World} (h:laidMetH Tryz.prog A2 w):laidMet Tryz.prog A2 w:=by
 unfold laidMetH at h
 rw[MO] at h
 exact h
theorem c4X {w:World} (h:laidMet Tryz.prog A2 w):laidMetH Tryz.prog A2 w:=by
 unfold laidMetH
 rw[MO]
 exact h
theorem gP:Tryz.prog.globalNamed "internal/strconv.uint64pow10" = some 0:=by kernel_rfl
theorem c2c {W:World} {name:String} {g:Nat} {cs:Array Value} (hg:Tryz.prog.globalNamed name=some g) (h:W.var? Tryz.prog name=some cs):∃T fz,W.heap[g]? = some (.cells cs T fz):=by
 unfold World.var? at h
 rw[hg] at h
 simp only[aw] at h
 split at h
 ·rename_i c T fz hh
  simp at h; subst h
  exact⟨T,fz,hh⟩
 ·simp at h
theorem c8n {w:World} {name:String} {g:Nat} {vs:List Value} {T:TypeId} (hg:Tryz.prog.globalNamed name=some g) (hs:w.shape? g=some (T,vs.length)) (hc:∀(i:Nat) (v:Value),vs[i]? = some v→w.cell? ⟨g,i,none⟩=some v):w.var? Tryz.prog name=some vs.toArray:=by
 unfold World.shape? at hs
 unfold World.var?
 rw[hg]
 simp only[aw]
 split at hs
 ·rename_i c T' fz hh
  simp at hs
  rw[hh]
  simp only[aa]
  apply Array.ext
  ·simpa using hs.2
  ·intro i h1 h2
   have h3:=hc i vs[i] (by simp)
   simp only[World.cell?,hh] at h3
   simp[h1] at h3
   simpa using h3
 ·simp at hs
def Gy:List Value:=Lib.pow10Tab.map λz=>Value.int .u64 z
def E7:List (Nat×Nat×Value):=Gy.mapIdx λi v=>(0,i,v)
def par (a:TypeId):Ps:=⟨E7,[(0,a,20)],0⟩
structure Held (W:World) (a:TypeId):Prop where
 cells:∀t∈(par a).tabs,W.cell? ⟨t.1,t.2.1,none⟩=some t.2.2
 rows:∀r∈(par a).rows,W.shape? r.1=some r.2
theorem held {W:World} (h:laidMet Tryz.prog A2 W):∃a,Held W a:=by
 have h1:Lib.TabIs Tryz.prog W "internal/strconv.uint64pow10" .u64 Lib.pow10Tab:=
  Lib.tabIs_of_head gP (by kernel_rfl) (show Tryz.prog.underlying 232=some (.array 20 193) by kernel_rfl) (show Tryz.prog.underlying 193=some (.int .u64) by kernel_rfl) (by kernel_rfl) (by kernel_rfl) h.tail.tail
 obtain⟨a,fa,ha⟩:=c2c gP h1
 refine⟨a,⟨?_,?_⟩⟩
 ·intro t ht
  have ht:t∈E7:=ht
  rw[E7] at ht
  obtain⟨i,hi,rfl⟩:=List.mem_mapIdx.1 ht
  simp only[World.cell?,ha]
  have:(Lib.pow10Tab.map λz=>Value.int .u64 z)=Gy:=rfl
  rw[this]
  simp
 ·intro r hr
  obtain rfl:r=(0,a,20):=by simpa[par] using hr
  simp only[World.shape?,ha]; rfl
theorem c4Y {a:TypeId} {w:World} {fix:Nat→Nat→Prop} (h:Tab (N0 (par a)) w fix):Lib.TabIs Tryz.prog w "internal/strconv.uint64pow10" .u64 Lib.pow10Tab:=by
 have hs:w.shape? 0=some (a,Gy.length):=h.2 (0,a,20) (by show (0,a,20)∈[((0:Nat),a,20)]; simp)
 refine c8n gP hs ?_
 intro i v hv
 refine(h.1 (0,i,v) ?_).2
 show (0,i,v)∈E7
 rw[E7]
 obtain⟨hi,dI⟩:=aj.1 (show Gy[i]? = some v from hv)
 exact List.mem_mapIdx.2 ⟨i,hi,by rw[dI]⟩
theorem rec27 (p:Ps):CH (N0 p) Tryz.prog 27 (AH 1):=by
 refine Mi (E:=E.opt { hs:=[0,1],sr:=true }) ((Jg p).opt _) rfl mixed rfl (fn:=Tryz.f30) (tA:=20) (T:=63) Tryz.func30 rfl rfl rfl ⟨_,rfl⟩ rfl rfl rfl rfl rfl rfl rfl (by kernel_rfl) (by kernel_rfl) rfl (by kernel_rfl) rfl (by kernel_rfl) (by kernel_rfl)
theorem rec48 (p:Ps):CH (N0 p) Tryz.prog 48 (AH 2):=by
 refine Mi (E:=E.opt { hs:=[0,1],sr:=true }) ((Jg p).opt _) rfl mixed rfl (fn:=Tryz.f54) (tA:=20) (T:=100) Tryz.func54 rfl rfl rfl ⟨_,rfl⟩ rfl rfl rfl rfl rfl rfl rfl (by kernel_rfl) (by kernel_rfl) rfl (by kernel_rfl) rfl (by kernel_rfl) (by kernel_rfl)
theorem lib {a:TypeId}:∀k pf,LS k=some pf→FnS E (N0 (par a)) k pf:=
 d2n (h39:=c4L (ρ:=Tryz.lays189_ren) (by kernel_rfl) Tryz.lays189)
  (h44:=c4K (ρ:=Tryz.laysM171_ren) (by kernel_rfl) Tryz.laysM171 (λ_ _ h=>c4Y h))
  (h183:=b5x (ρ:=Tryz.lays217_ren) (by kernel_rfl) Tryz.lays217) (h27:=rec27 _) (h48:=rec48 _)
theorem b5L (pvs:List PV) (h:Ex D [22,0] pvs):∃m h',call LS m 5 pvs []=some (.bool true,h'):=by
 match pvs,h with
 | [p, q], h =>
   obtain⟨x,rfl,hx⟩:=c5H p h.1
   obtain⟨y,rfl,hy⟩:=CN q h.2.1
   obtain⟨h',hr⟩:=b51 x hx y
   obtain⟨m,hm⟩:=AY.1 hr
   exact⟨m,h',hm⟩
theorem b5M:∀i∈([22,0]:List Nat),i<23∧Tryz.prog.readableRec (tm i)=true∧tm i<Tryz.prog.types.size:=λi hi=>c8m i (by simp at hi; omega)
theorem c2d (os:Os) (args:Array Value):laidMetH Tryz.prog A2 ((World.laidAll Tryz.prog os A2).forCall (λ_ _=>0) ⟨#[],args,[]⟩).memory:=
 c4X (laidMet_laidAll args (by kernel_rfl) (by kernel_rfl))
theorem b2h (os:Os) (started:os.Started) (H:Type) (enc:TypeId×Value→H):
  ReturnsInHanded {} Tryz.checked os 8 .any (λw args=>(Rows.scopeAddsSpec.pre enc Tryz.prog Tryz.f8 [] false w args∧laidMetH Tryz.prog A2 w)∧sizedMet enc Tryz.prog Tryz.f8 (OpenSpec.ofChange Rows.scopeAddsSpec) false w args)
   (Rows.scopeAddsSpec.post enc Tryz.prog Tryz.f8 false true false false):=by
 refine returnsInHanded_of_change_and (C:=Tryz.checked) (X:=λw _=>laidMetH Tryz.prog A2 w) (λ_ _ _ hh h=>h.of_heap hh) own started (by kernel_rfl) Tryz.func8
  (ChangeSpec.witness_at (enc:=enc) (C:=Tryz.checked) (os:=os) (X:=λw _=>laidMetH Tryz.prog A2 w) false (World.laidAll Tryz.prog os A2) #[.agg #[.slice none 0 0,.slice none 0 0],.string ⟨#[]⟩] 8 (World.laidAll_os _ _ _) (by kernel_rfl) (by kernel_rfl) (by kernel_rfl) (by kernel_rfl) (by kernel_rfl) (c2d os _)) ?_
 intro W base args ds gs before eh hW _ iB hL _
 obtain⟨a,hh⟩:=held (c4W hL)
 exact b6W (base':=base) (N:=N0 (par a)) (D:=D) (tm:=tm) (n:=23) (k:=5) (idxs:=[22,0]) (tb:=4) (Jg _) rfl mixed lib hh.cells hh.rows c2b c4U (by kernel_rfl) b5M rfl Tryz.underlying4 (by kernel_rfl)
  (λds hl=>by match ds,hl with | [_,_],_=>rfl) eh hW iB (λpvs h _=>b5L pvs h)
theorem b2i:Rows.ScopeAddsSaid:=
 OpenClaim.holds_of_wide 8 Tryz.f8 rfl rfl rfl rfl rfl rfl rfl ⟨rfl,rfl,rfl,rfl,rfl⟩ rfl rfl rfl rfl rfl (by kernel_rfl) Tryz.func8 (by kernel_rfl)
  (of_decide_eq_true (by kernel_rfl)) (by unfold Func.isWrapper; first|(rw[ah (by decide +kernel)]; kernel_rfl)|(rw[af (by decide +kernel)]; exact⟨rfl,rfl⟩))
  (λos started H enc _=>b2h os started H enc)
theorem scopeAdds_card:Rows.ScopeAddsCardSaid:=
 Claim7.holds_tied_plain_at .later [] [.data,.data,.data] true (true, "d751b228062792c25efd24a7f43c9b990f5b0ffd2ef28c347ac8acc5d960c19f") true
  b2i (λ_ h=>by cases h) (by kernel_rfl) (λ_ h=>by cases h) scopeAdds_row_tie rfl ⟨rfl,rfl⟩ (by kernel_rfl) rfl
  (λf fn hf ei=>by
   obtain rfl:f=8:=cE ((show Tryz.prog.funcNamed "synchrony/synchronylaw10.ScopeAdds" = some 8 by kernel_rfl).symm.trans hf) |>.symm
   obtain rfl:fn=Tryz.f8:=(cE (Tryz.func8.symm.trans ei)).symm
   exact⟨by kernel_rfl,λj t ht=>by
    have hp:Tryz.f8.params = #[25,9]:=by kernel_rfl
    rw[hp] at ht
    have h3:t=25∨t=9:=by
     rcases j with _|_|j
     ·left; simpa using ht.symm
     ·right; simpa using ht.symm
     ·simp at ht
    rcases h3 with rfl|rfl
    ·exact(show Tryz.prog.wantsStandIn 25=false by kernel_rfl)
    ·exact(show Tryz.prog.wantsStandIn 9=false by kernel_rfl)⟩)
  (by kernel_rfl)
#print axioms scopeAdds_card
end Go.Proofs.YtljbhgpanekomaaGreatDoor.Pi
