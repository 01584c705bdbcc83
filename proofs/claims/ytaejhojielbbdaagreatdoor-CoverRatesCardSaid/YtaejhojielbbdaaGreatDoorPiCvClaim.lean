/-
  CoverRates (Rate counts the elements, for all lists) holds of the translated program: the law returns true and leaves its argument as it was. No further condition; proved by way of a pure interpreter that is shown to be sound for the machine.
-/
import Derived.Test.YtaejhojielbbdaaGreatDoorTie
import Derived.Test.YtaejhojielbbdaaGreatDoorCards
import Derived.Test.YtaejhojielbbdaaGreatDoorPiCvFacts
import Derived.Test.YtaejhojielbbdaaGreatDoorPiCvSeat
import Derived.Test.YtaejhojielbbdaaGreatDoorPiCvPlain
import Derived.Test.YtaejhojielbbdaaGreatDoorPiCvLaw
import Derived.Test.YtaejhojielbbdaaGreatDoorPiCvCmp
import Derived.Test.YtaejhojielbbdaaGreatDoorPiPrimOK
import Derived.Test.YtaejhojielbbdaaGreatDoorPiPrimSort
import Derived.Test.YtaejhojielbbdaaGreatDoorPiPrimSortF
import Derived.Test.YtaejhojielbbdaaGreatDoorPiRec
import Derived.Test.YtaejhojielbbdaaGreatDoorPiClose
import Derived.WalkKit
import Derived.ProofKit
import Derived.OpenShut
import Derived.SizedLaws
import Derived.Handed
import Derived.Lay
import Derived.LaidSub
import Derived.Lib.LaidTab
import Derived.Stop.LaidErr
import Derived.SevenTiedAt
import Derived.Deep.DeepHandedRow
set_option linter.unusedSimpArgs false
set_option maxRecDepth 100000
set_option linter.unusedVariables false
namespace Go.Proofs.YtaejhojielbbdaaGreatDoor.Pi
open Go.ChangeShapes Go.WideShapes Go.ChangeAt Go.RowKit PI PI.Sc
theorem own : ownKnob Tryz.prog.godebug = none := by kernel_rfl
def D : Nat → TyD
 | 0 => .bool
 | _ => .slice 0 1
def tm (i : Nat) : TypeId := ([4] : List Nat).getD i 22
theorem matchAll : (List.range 2).all (fun i => matchT Tryz.prog D tm 2 i) = true := by kernel_rfl
theorem matches' : ∀ i, i < 2 → matchT Tryz.prog D tm 2 i = true := by
 intro i hi
 exact List.all_eq_true.1 matchAll i (by simpa using hi)
theorem laidOut : laidOutB Tryz.prog = true := by kernel_rfl
theorem typesOk : (List.range 2).all (fun i => Tryz.prog.readableRec (tm i) && decide (tm i < Tryz.prog.types.size)) = true := by kernel_rfl
theorem types' (i : Nat) (hi : i < 2) : i < 2 ∧ Tryz.prog.readableRec (tm i) = true ∧ tm i < Tryz.prog.types.size := by
 have := List.all_eq_true.1 typesOk i (by simpa using hi)
 simp only [Bool.and_eq_true, decide_eq_true_eq] at this
 exact ⟨hi, this⟩
/-! ### What the library's variables hold -/
def laid : List (String × DataW Unit) := [("math/bits.deBruijn32tab", Rows.laid_math_bits_deBruijn32tab), ("math/bits.deBruijn64tab", Rows.laid_math_bits_deBruijn64tab), ("internal/strconv.uint64pow10", Rows.laid_internal_strconv_uint64pow10)]
theorem noHandles : (laid.filter fun x => x.2.handleName?.isSome) = [] := by kernel_rfl
theorem laid_of {w : World} (h : laidMetH Tryz.prog laid w) : laidMet Tryz.prog laid w := by
 unfold laidMetH at h
 rw [noHandles] at h
 exact h
theorem laid_to {w : World} (h : laidMet Tryz.prog laid w) : laidMetH Tryz.prog laid w := by
 unfold laidMetH
 rw [noHandles]
 exact h
theorem gP : Tryz.prog.globalNamed "internal/strconv.uint64pow10" = some 0 := by kernel_rfl
theorem var_heap {W : World} {name : String} {g : Nat} {cs : Array Value} (hg : Tryz.prog.globalNamed name = some g) (h : W.var? Tryz.prog name = some cs) : ∃ T fz, W.heap[g]? = some (.cells cs T fz) := by
 unfold World.var? at h
 rw [hg] at h
 simp only [Option.bind_some] at h
 split at h
 ·rename_i c T fz hh
  simp at h; subst h
  exact ⟨T, fz, hh⟩
 ·simp at h
theorem var_of {w : World} {name : String} {g : Nat} {vs : List Value} {T : TypeId} (hg : Tryz.prog.globalNamed name = some g) (hs : w.shape? g = some (T, vs.length)) (hc : ∀ (i : Nat) (v : Value), vs[i]? = some v → w.cell? ⟨g, i, none⟩ = some v) : w.var? Tryz.prog name = some vs.toArray := by
 unfold World.shape? at hs
 unfold World.var?
 rw [hg]
 simp only [Option.bind_some]
 split at hs
 ·rename_i c T' fz hh
  simp at hs
  rw [hh]
  simp only [Option.some.injEq]
  apply Array.ext
  ·simpa using hs.2
  ·intro i h1 h2
   have h3 := hc i vs[i] (by simp)
   simp only [World.cell?, hh] at h3
   simp [h1] at h3
   simpa using h3
 ·simp at hs
def pows : List Value := Lib.pow10Tab.map fun z => Value.int .u64 z
def tabsP : List (Nat × Nat × Value) := pows.mapIdx fun i v => (0, i, v)
def par (a : TypeId) : Ps := ⟨tabsP, [(0, a, 20)], 0⟩
structure Held (W : World) (a : TypeId) : Prop where
 cells : ∀ t ∈ (par a).tabs, W.cell? ⟨t.1, t.2.1, none⟩ = some t.2.2
 rows : ∀ r ∈ (par a).rows, W.shape? r.1 = some r.2
theorem held {W : World} (h : laidMet Tryz.prog laid W) : ∃ a, Held W a := by
 have h1 : Lib.TabIs Tryz.prog W "internal/strconv.uint64pow10" .u64 Lib.pow10Tab :=
  Lib.tabIs_of_head gP (by kernel_rfl) (show Tryz.prog.underlying 366 = some (.array 20 294) by kernel_rfl) (show Tryz.prog.underlying 294 = some (.int .u64) by kernel_rfl) (by kernel_rfl) (by kernel_rfl) h.tail.tail
 obtain ⟨a, fa, ha⟩ := var_heap gP h1
 refine ⟨a, ⟨?_, ?_⟩⟩
 ·intro t ht
  have ht : t ∈ tabsP := ht
  rw [tabsP] at ht
  obtain ⟨i, hi, rfl⟩ := List.mem_mapIdx.1 ht
  simp only [World.cell?, ha]
  have : (Lib.pow10Tab.map fun z => Value.int .u64 z) = pows := rfl
  rw [this]
  simp
 ·intro r hr
  obtain rfl : r = (0, a, 20) := by simpa [par] using hr
  simp only [World.shape?, ha]; rfl
theorem tab_pow {a : TypeId} {w : World} {fix : Nat → Nat → Prop} (h : Tab (N0 (par a)) w fix) : Lib.TabIs Tryz.prog w "internal/strconv.uint64pow10" .u64 Lib.pow10Tab := by
 have hs : w.shape? 0 = some (a, pows.length) := h.2 (0, a, 20) (by show (0, a, 20) ∈ [((0 : Nat), a, 20)]; simp)
 refine var_of gP hs ?_
 intro i v hv
 refine (h.1 (0, i, v) ?_).2
 show (0, i, v) ∈ tabsP
 rw [tabsP]
 obtain ⟨hi, hv'⟩ := List.getElem?_eq_some_iff.1 (show pows[i]? = some v from hv)
 exact List.mem_mapIdx.2 ⟨i, hi, by rw [hv']⟩
theorem rec112 (p : Ps) : DfrOK (N0 p) Tryz.prog 112 (pRec 1) := by
 refine rec_ok (E := E.opt { hs := [0, 1], sr := true }) ((envOk p).opt _) rfl mixed rfl (fn := Tryz.f120) (tA := 20) (T := 223) Tryz.func120 rfl rfl rfl ⟨_, rfl⟩ rfl rfl rfl rfl rfl rfl rfl (by kernel_rfl) (by kernel_rfl) rfl (by kernel_rfl) rfl (by kernel_rfl) (by kernel_rfl)
theorem rec123 (p : Ps) : DfrOK (N0 p) Tryz.prog 123 (pRec 2) := by
 refine rec_ok (E := E.opt { hs := [0, 1], sr := true }) ((envOk p).opt _) rfl mixed rfl (fn := Tryz.f131) (tA := 20) (T := 244) Tryz.func131 rfl rfl rfl ⟨_, rfl⟩ rfl rfl rfl rfl rfl rfl rfl (by kernel_rfl) (by kernel_rfl) rfl (by kernel_rfl) rfl (by kernel_rfl) (by kernel_rfl)
theorem sortE (p : Ps) : PrimOK (N0 p) Tryz.prog 197 (pSortPairs 198) :=
 sortp_ok (ρ := Tryz.sortEdge_ren) (by kernel_rfl) Tryz.sortEdge Tryz.isAgg268 Tryz.sizeOf268 (enters_of Tryz.func214 (by kernel_rfl) rfl) cmp_walk
theorem lib {a : TypeId} : ∀ k pf, LC k = some pf → FnS E (N0 (par a)) k pf :=
 libOk (h265 := sort_ok (ρ := Tryz.lays189_ren) (by kernel_rfl) Tryz.lays189)
  (h40 := itoa_ok (ρ := Tryz.laysM171_ren) (by kernel_rfl) Tryz.laysM171 (fun _ _ h => tab_pow h))
  (h197 := sortE _) (h112 := rec112 _) (h123 := rec123 _)
theorem sh_bools : ∀ es : List PV, (∀ x ∈ es, Sh D 0 x) → ∃ bs : List Bool, es = bs.map .bool
 | [], _ => ⟨[], rfl⟩
 | x :: es, h => by
   obtain ⟨bs, rfl⟩ := sh_bools es (fun y hy => h y (List.mem_cons_of_mem _ hy))
   have h0 := h x (by simp)
   cases h0 with
   | bool _ b _ => exact ⟨b :: bs, rfl⟩
   | int _ _ _ h' => cases h'
   | str _ _ h' => cases h'
   | slice _ _ _ _ h' => cases h'
   | struct _ _ _ h' => cases h'
theorem runCoverRates (pvs : List PV) (h : ShAll D [1] pvs) : ∃ m h', call LC m 0 pvs [] = some (.bool true, h') := by
 match pvs, h with
 | [p], h =>
   obtain ⟨es, rfl, hl, hb, hs⟩ := Sh.inv_slice (D := D) (e := 0) (b := 1) rfl h.1
   obtain ⟨bs, rfl⟩ := sh_bools es hs
   obtain ⟨h', hr⟩ := law_run bs false
   obtain ⟨m, hm⟩ := callL_iff.1 hr
   exact ⟨m, h', hm⟩
theorem idxCoverRates : ∀ i ∈ ([1] : List Nat), i < 2 ∧ Tryz.prog.readableRec (tm i) = true ∧ tm i < Tryz.prog.types.size := fun i hi => types' i (by simp at hi; omega)
theorem laid_met (os : Os) (args : Array Value) : laidMetH Tryz.prog laid ((World.laidAll Tryz.prog os laid).forCall (fun _ _ => 0) ⟨#[], args, []⟩).memory :=
 laid_to (laidMet_laidAll args (by kernel_rfl) (by kernel_rfl))
theorem liftedCoverRates (os : Os) (started : os.Started) (H : Type) (enc : TypeId × Value → H) :
  ReturnsInHanded {} Tryz.checked os 3 .any (fun w args => (Rows.coverRatesSpec.pre enc Tryz.prog Tryz.f3 [] false w args ∧ laidMetH Tryz.prog laid w) ∧ sizedMet enc Tryz.prog Tryz.f3 (OpenSpec.ofChange Rows.coverRatesSpec) false w args)
   (Rows.coverRatesSpec.post enc Tryz.prog Tryz.f3 false true false false) := by
 refine returnsInHanded_of_change_and (C := Tryz.checked) (X := fun w _ => laidMetH Tryz.prog laid w) (fun _ _ _ hh h => h.of_heap hh) own started (by kernel_rfl) Tryz.func3
  (ChangeSpec.witness_at (enc := enc) (C := Tryz.checked) (os := os) (X := fun w _ => laidMetH Tryz.prog laid w) false (World.laidAll Tryz.prog os laid) #[.slice none 0 0] 8 (World.laidAll_os _ _ _) (by kernel_rfl) (by kernel_rfl) (by kernel_rfl) (by kernel_rfl) (by kernel_rfl) (laid_met os _)) ?_
 intro W base args ds gs before hval hW _ hwg hL _
 obtain ⟨a, hh⟩ := held (laid_of hL)
 exact pi_contract (base' := base) (N := N0 (par a)) (D := D) (tm := tm) (n := 2) (k := 0) (idxs := [1]) (tb := 4) (envOk _) rfl mixed lib hh.cells hh.rows matches' laidOut (by kernel_rfl) idxCoverRates rfl Tryz.underlying4 (by kernel_rfl)
  (fun ds hl => by match ds, hl with | [_], _ => rfl) hval hW hwg (fun pvs h _ => runCoverRates pvs h)
theorem coverRates_holds : Rows.CoverRatesSaid :=
 OpenClaim.holds_of_wide 3 Tryz.f3 rfl rfl rfl rfl rfl rfl rfl ⟨rfl, rfl, rfl, rfl, rfl⟩ rfl rfl rfl rfl rfl named3 Tryz.func3 closed3 inst3 wrap3
  (fun os started H enc _ => liftedCoverRates os started H enc)
theorem coverRates_card : Rows.CoverRatesCardSaid :=
 Claim7.holds_tied_plain_at .later [] [.data, .data, .data] true (true, "9f60b61577bf900bc3cb9e65b037e91791c0bcaddc89ff2b5841c8311d078561") true
  coverRates_holds (fun _ h => by cases h) byText3 (fun _ h => by cases h) coverRates_row_tie rfl ⟨rfl, rfl⟩ main3 rfl
  (fun f fn hf hfn => by
   obtain rfl : f = 3 := Option.some.inj (named3.symm.trans hf) |>.symm
   obtain rfl : fn = Tryz.f3 := (Option.some.inj (Tryz.func3.symm.trans hfn)).symm
   exact ⟨looks3, fun j t ht => by
    rw [params3] at ht
    have h3 : t = 22 := by
     rcases j with _ | j
     ·simpa using ht.symm
     ·simp at ht
    subst h3
    exact stand3⟩)
  goes3
#print axioms coverRates_card
end Go.Proofs.YtaejhojielbbdaaGreatDoor.Pi
