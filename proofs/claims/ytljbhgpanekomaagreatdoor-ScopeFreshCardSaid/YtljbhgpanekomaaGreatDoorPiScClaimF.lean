/-
  ScopeFresh (fresh names) holds of the translated program: the law returns true and leaves its arguments as they were. No further condition; proved by way of a pure interpreter that is shown to be sound for the machine.
-/
import Derived.Test.YtljbhgpanekomaaGreatDoorTie
import Derived.Test.YtljbhgpanekomaaGreatDoorCards
import Derived.Test.YtljbhgpanekomaaGreatDoorPiScSeat
import Derived.Test.YtljbhgpanekomaaGreatDoorPiScPlain
import Derived.Test.YtljbhgpanekomaaGreatDoorPiScF2
import Derived.Test.YtljbhgpanekomaaGreatDoorPiScSh
import Derived.Test.YtljbhgpanekomaaGreatDoorPiPrimOK
import Derived.Test.YtljbhgpanekomaaGreatDoorPiPrimOK
import Derived.Test.YtljbhgpanekomaaGreatDoorPiClose
import Derived.WalkKit
import Derived.ProofKit
import Derived.OpenShut
import Derived.SizedLaws
import Derived.Handed
import Derived.Lay
import Derived.LaidSub
import Derived.Lib.LaidTab
import Derived.Stop.LaidErr
import Derived.SevenTiedAt
import Derived.Deep.DeepHandedRow
set_option maxRecDepth 100000
set_option linter.unusedVariables false
namespace Go.Proofs.YtljbhgpanekomaaGreatDoor.Pi
open Go.ChangeShapes Go.WideShapes Go.ChangeAt Go.RowKit PI PI.Sc
theorem own : ownKnob Tryz.prog.godebug = none := by kernel_rfl
def tm (i : Nat) : TypeId := ([9, 3, 42, 70, 22, 81, 52, 54, 34, 57, 38, 59, 36, 4, 179, 138, 140, 121, 37, 119, 40, 23] : List Nat).getD i 25
theorem matchAll : (List.range 23).all (fun i => matchT Tryz.prog D tm 23 i) = true := by kernel_rfl
theorem matches' : ∀ i, i < 23 → matchT Tryz.prog D tm 23 i = true := by
 intro i hi
 exact List.all_eq_true.1 matchAll i (by simpa using hi)
theorem laidOut : laidOutB Tryz.prog = true := by kernel_rfl
theorem typesOk : (List.range 23).all (fun i => Tryz.prog.readableRec (tm i) && decide (tm i < Tryz.prog.types.size)) = true := by kernel_rfl
theorem types' (i : Nat) (hi : i < 23) : i < 23 ∧ Tryz.prog.readableRec (tm i) = true ∧ tm i < Tryz.prog.types.size := by
 have := List.all_eq_true.1 typesOk i (by simpa using hi)
 simp only [Bool.and_eq_true, decide_eq_true_eq] at this
 exact ⟨hi, this⟩
def laid : List (String × DataW Unit) := [("math/bits.deBruijn32tab", Rows.laid_math_bits_deBruijn32tab), ("math/bits.deBruijn64tab", Rows.laid_math_bits_deBruijn64tab), ("internal/strconv.uint64pow10", Rows.laid_internal_strconv_uint64pow10)]
theorem noHandles : (laid.filter fun x => x.2.handleName?.isSome) = [] := by kernel_rfl
theorem laid_of {w : World} (h : laidMetH Tryz.prog laid w) : laidMet Tryz.prog laid w := by
 unfold laidMetH at h
 rw [noHandles] at h
 exact h
theorem laid_to {w : World} (h : laidMet Tryz.prog laid w) : laidMetH Tryz.prog laid w := by
 unfold laidMetH
 rw [noHandles]
 exact h
theorem gP : Tryz.prog.globalNamed "internal/strconv.uint64pow10" = some 0 := by kernel_rfl
theorem var_heap {W : World} {name : String} {g : Nat} {cs : Array Value} (hg : Tryz.prog.globalNamed name = some g) (h : W.var? Tryz.prog name = some cs) : ∃ T fz, W.heap[g]? = some (.cells cs T fz) := by
 unfold World.var? at h
 rw [hg] at h
 simp only [Option.bind_some] at h
 split at h
 ·rename_i c T fz hh
  simp at h; subst h
  exact ⟨T, fz, hh⟩
 ·simp at h
theorem var_of {w : World} {name : String} {g : Nat} {vs : List Value} {T : TypeId} (hg : Tryz.prog.globalNamed name = some g) (hs : w.shape? g = some (T, vs.length)) (hc : ∀ (i : Nat) (v : Value), vs[i]? = some v → w.cell? ⟨g, i, none⟩ = some v) : w.var? Tryz.prog name = some vs.toArray := by
 unfold World.shape? at hs
 unfold World.var?
 rw [hg]
 simp only [Option.bind_some]
 split at hs
 ·rename_i c T' fz hh
  simp at hs
  rw [hh]
  simp only [Option.some.injEq]
  apply Array.ext
  ·simpa using hs.2
  ·intro i h1 h2
   have h3 := hc i vs[i] (by simp)
   simp only [World.cell?, hh] at h3
   simp [h1] at h3
   simpa using h3
 ·simp at hs
def pows : List Value := Lib.pow10Tab.map fun z => Value.int .u64 z
def tabsP : List (Nat × Nat × Value) := pows.mapIdx fun i v => (0, i, v)
def par (a : TypeId) : Ps := ⟨tabsP, [(0, a, 20)], 0⟩
structure Held (W : World) (a : TypeId) : Prop where
 cells : ∀ t ∈ (par a).tabs, W.cell? ⟨t.1, t.2.1, none⟩ = some t.2.2
 rows : ∀ r ∈ (par a).rows, W.shape? r.1 = some r.2
theorem held {W : World} (h : laidMet Tryz.prog laid W) : ∃ a, Held W a := by
 have h1 : Lib.TabIs Tryz.prog W "internal/strconv.uint64pow10" .u64 Lib.pow10Tab :=
  Lib.tabIs_of_head gP (by kernel_rfl) (show Tryz.prog.underlying 232 = some (.array 20 193) by kernel_rfl) (show Tryz.prog.underlying 193 = some (.int .u64) by kernel_rfl) (by kernel_rfl) (by kernel_rfl) h.tail.tail
 obtain ⟨a, fa, ha⟩ := var_heap gP h1
 refine ⟨a, ⟨?_, ?_⟩⟩
 ·intro t ht
  have ht : t ∈ tabsP := ht
  rw [tabsP] at ht
  obtain ⟨i, hi, rfl⟩ := List.mem_mapIdx.1 ht
  simp only [World.cell?, ha]
  have : (Lib.pow10Tab.map fun z => Value.int .u64 z) = pows := rfl
  rw [this]
  simp
 ·intro r hr
  obtain rfl : r = (0, a, 20) := by simpa [par] using hr
  simp only [World.shape?, ha]; rfl
theorem tab_pow {a : TypeId} {w : World} {fix : Nat → Nat → Prop} (h : Tab (N0 (par a)) w fix) : Lib.TabIs Tryz.prog w "internal/strconv.uint64pow10" .u64 Lib.pow10Tab := by
 have hs : w.shape? 0 = some (a, pows.length) := h.2 (0, a, 20) (by show (0, a, 20) ∈ [((0 : Nat), a, 20)]; simp)
 refine var_of gP hs ?_
 intro i v hv
 refine (h.1 (0, i, v) ?_).2
 show (0, i, v) ∈ tabsP
 rw [tabsP]
 obtain ⟨hi, hv'⟩ := List.getElem?_eq_some_iff.1 (show pows[i]? = some v from hv)
 exact List.mem_mapIdx.2 ⟨i, hi, by rw [hv']⟩
theorem rec27 (p : Ps) : DfrOK (N0 p) Tryz.prog 27 (pRec 1) := by
 refine rec_ok (E := E.opt { hs := [0, 1], sr := true }) ((envOk p).opt _) rfl mixed rfl (fn := Tryz.f30) (tA := 20) (T := 63) Tryz.func30 rfl rfl rfl ⟨_, rfl⟩ rfl rfl rfl rfl rfl rfl rfl (by kernel_rfl) (by kernel_rfl) rfl (by kernel_rfl) rfl (by kernel_rfl) (by kernel_rfl)
theorem rec48 (p : Ps) : DfrOK (N0 p) Tryz.prog 48 (pRec 2) := by
 refine rec_ok (E := E.opt { hs := [0, 1], sr := true }) ((envOk p).opt _) rfl mixed rfl (fn := Tryz.f54) (tA := 20) (T := 100) Tryz.func54 rfl rfl rfl ⟨_, rfl⟩ rfl rfl rfl rfl rfl rfl rfl (by kernel_rfl) (by kernel_rfl) rfl (by kernel_rfl) rfl (by kernel_rfl) (by kernel_rfl)
theorem lib {a : TypeId} : ∀ k pf, LS k = some pf → FnS E (N0 (par a)) k pf :=
 libOk (h39 := sort_ok (ρ := Tryz.lays189_ren) (by kernel_rfl) Tryz.lays189)
  (h44 := itoa_ok (ρ := Tryz.laysM171_ren) (by kernel_rfl) Tryz.laysM171 (fun _ _ h => tab_pow h))
  (h183 := indexByte_ok (ρ := Tryz.lays217_ren) (by kernel_rfl) Tryz.lays217) (h27 := rec27 _) (h48 := rec48 _)
theorem runScopeFresh (pvs : List PV) (h : ShAll D [22, 0] pvs) : ∃ m h', call LS m 2 pvs [] = some (.bool true, h') := by
 match pvs, h with
 | [p, q], h =>
   obtain ⟨x, rfl, hx⟩ := sh_prog p h.1
   obtain ⟨y, rfl, hy⟩ := sh_str q h.2.1
   obtain ⟨h', hr⟩ := law_fresh x hx y
   obtain ⟨m, hm⟩ := callL_iff.1 hr
   exact ⟨m, h', hm⟩
theorem idxScopeFresh : ∀ i ∈ ([22, 0] : List Nat), i < 23 ∧ Tryz.prog.readableRec (tm i) = true ∧ tm i < Tryz.prog.types.size := fun i hi => types' i (by simp at hi; omega)
theorem laid_met (os : Os) (args : Array Value) : laidMetH Tryz.prog laid ((World.laidAll Tryz.prog os laid).forCall (fun _ _ => 0) ⟨#[], args, []⟩).memory :=
 laid_to (laidMet_laidAll args (by kernel_rfl) (by kernel_rfl))
theorem liftedScopeFresh (os : Os) (started : os.Started) (H : Type) (enc : TypeId × Value → H) :
  ReturnsInHanded {} Tryz.checked os 5 .any (fun w args => (Rows.scopeFreshSpec.pre enc Tryz.prog Tryz.f5 [] false w args ∧ laidMetH Tryz.prog laid w) ∧ sizedMet enc Tryz.prog Tryz.f5 (OpenSpec.ofChange Rows.scopeFreshSpec) false w args)
   (Rows.scopeFreshSpec.post enc Tryz.prog Tryz.f5 false true false false) := by
 refine returnsInHanded_of_change_and (C := Tryz.checked) (X := fun w _ => laidMetH Tryz.prog laid w) (fun _ _ _ hh h => h.of_heap hh) own started (by kernel_rfl) Tryz.func5
  (ChangeSpec.witness_at (enc := enc) (C := Tryz.checked) (os := os) (X := fun w _ => laidMetH Tryz.prog laid w) false (World.laidAll Tryz.prog os laid) #[.agg #[.slice none 0 0, .slice none 0 0], .string ⟨#[]⟩] 8 (World.laidAll_os _ _ _) (by kernel_rfl) (by kernel_rfl) (by kernel_rfl) (by kernel_rfl) (by kernel_rfl) (laid_met os _)) ?_
 intro W base args ds gs before hval hW _ hwg hL _
 obtain ⟨a, hh⟩ := held (laid_of hL)
 exact pi_contract (base' := base) (N := N0 (par a)) (D := D) (tm := tm) (n := 23) (k := 2) (idxs := [22, 0]) (tb := 4) (envOk _) rfl mixed lib hh.cells hh.rows matches' laidOut (by kernel_rfl) idxScopeFresh rfl Tryz.underlying4 (by kernel_rfl)
  (fun ds hl => by match ds, hl with | [_, _], _ => rfl) hval hW hwg (fun pvs h _ => runScopeFresh pvs h)
theorem scopeFresh_holds : Rows.ScopeFreshSaid :=
 OpenClaim.holds_of_wide 5 Tryz.f5 rfl rfl rfl rfl rfl rfl rfl ⟨rfl, rfl, rfl, rfl, rfl⟩ rfl rfl rfl rfl rfl (by kernel_rfl) Tryz.func5 (by kernel_rfl)
  (of_decide_eq_true (by kernel_rfl)) (by unfold Func.isWrapper; first | (rw [if_pos (by decide +kernel)]; kernel_rfl) | (rw [if_neg (by decide +kernel)]; exact ⟨rfl, rfl⟩))
  (fun os started H enc _ => liftedScopeFresh os started H enc)
theorem scopeFresh_card : Rows.ScopeFreshCardSaid :=
 Claim7.holds_tied_plain_at .later [] [.data, .data, .data] true (true, "d751b228062792c25efd24a7f43c9b990f5b0ffd2ef28c347ac8acc5d960c19f") true
  scopeFresh_holds (fun _ h => by cases h) (by kernel_rfl) (fun _ h => by cases h) scopeFresh_row_tie rfl ⟨rfl, rfl⟩ (by kernel_rfl) rfl
  (fun f fn hf hfn => by
   obtain rfl : f = 5 := Option.some.inj ((show Tryz.prog.funcNamed "synchrony/synchronylaw10.ScopeFresh" = some 5 by kernel_rfl).symm.trans hf) |>.symm
   obtain rfl : fn = Tryz.f5 := (Option.some.inj (Tryz.func5.symm.trans hfn)).symm
   exact ⟨by kernel_rfl, fun j t ht => by
    have hp : Tryz.f5.params = #[25, 9] := by kernel_rfl
    rw [hp] at ht
    have h3 : t = 25 ∨ t = 9 := by
     rcases j with _ | _ | j
     ·left; simpa using ht.symm
     ·right; simpa using ht.symm
     ·simp at ht
    rcases h3 with rfl | rfl
    ·exact (show Tryz.prog.wantsStandIn 25 = false by kernel_rfl)
    ·exact (show Tryz.prog.wantsStandIn 9 = false by kernel_rfl)⟩)
  (by kernel_rfl)
#print axioms scopeFresh_card
end Go.Proofs.YtljbhgpanekomaaGreatDoor.Pi
