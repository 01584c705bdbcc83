/-
  Statements on compare hold of the translated program: the law returns true and leaves its arguments as they were. Unconditional; proved by way of a pure interpreter that is shown to be sound for the machine.
-/
import Derived.Test.YtehmgnnalbielaaRows
import Derived.Test.YtehmgnnalbielaaPiCmpSeat
import Derived.Test.YtehmgnnalbielaaPiCmqRun11
import Derived.Test.YtehmgnnalbielaaPiClose
import Derived.WalkKit
import Derived.ProofKit
import Derived.OpenShut
import Derived.SizedLaws
set_option maxRecDepth 100000
set_option linter.unusedVariables false
namespace Go.Proofs.Ytehmgnnalbielaa.Pi
open Go.ChangeShapes Go.WideShapes Go.ChangeAt Go.RowKit PI PI.Cmp

theorem own : ownKnob Try.prog.godebug = none := by kernel_rfl

def D : Nat → TyD
  | 0 => .str
  | 1 => .int .i64
  | 2 => .struct [0, 1, 1]
  | 3 => .slice 2 32
  | 4 => .struct [0, 1, 3]
  | 5 => .slice 4 48
  | 6 => .struct [1, 1]
  | 7 => .slice 6 16
  | 8 => .slice 7 24
  | 9 => .struct [5, 8]
  | _ => .slice 0 16
def tm : Nat → TypeId
  | 0 => 9
  | 1 => 3
  | 2 => 79
  | 3 => 57
  | 4 => 59
  | 5 => 22
  | 6 => 42
  | 7 => 40
  | 8 => 23
  | 9 => 25
  | _ => 30
theorem matchAll : (List.range 11).all (fun i => matchT Try.prog D tm 11 i) = true := by kernel_rfl
theorem matches' : ∀ i, i < 11 → matchT Try.prog D tm 11 i = true := by
  intro i hi
  exact List.all_eq_true.1 matchAll i (by simpa using hi)
theorem laid : laidOutB Try.prog = true := by kernel_rfl
theorem typesOk : (List.range 11).all (fun i => Try.prog.readableRec (tm i) && decide (tm i < Try.prog.types.size)) = true := by kernel_rfl
theorem types' (i : Nat) (hi : i < 11) : i < 11 ∧ Try.prog.readableRec (tm i) = true ∧ tm i < Try.prog.types.size := by
  have := List.all_eq_true.1 typesOk i (by simpa using hi)
  simp only [Bool.and_eq_true, decide_eq_true_eq] at this
  exact ⟨hi, this⟩

/-! ### What is given, as traces -/

theorem all_map {α : Type} {f : α → PV} {G : α → Prop} {i : Nat} (hf : ∀ p, Sh D i p → ∃ x, p = f x ∧ G x) : ∀ es : List PV, (∀ x ∈ es, Sh D i x) → ∃ l : List α, es = l.map f ∧ ∀ x ∈ l, G x
  | [], _ => ⟨[], rfl, by simp⟩
  | x :: xs, h => by
    obtain ⟨y, rfl, hy⟩ := hf x (h x (List.mem_cons_self ..))
    obtain ⟨l, rfl, hl⟩ := all_map hf xs (fun y hy => h y (List.mem_cons_of_mem _ hy))
    refine ⟨y :: l, rfl, ?_⟩
    intro z hz
    rcases List.mem_cons.1 hz with rfl | hz
    · exact hy
    · exact hl z hz
theorem sh_str (p : PV) (h : Sh D 0 p) : ∃ s, p = .str s := by
  obtain ⟨s, rfl, _⟩ := Sh.inv_str (D := D) rfl h
  exact ⟨s, rfl⟩
theorem sh_int {p : PV} (h : Sh D 1 p) : ∃ n, p = .int .i64 n := by
  obtain ⟨n, rfl, _⟩ := Sh.inv_int (D := D) (k := .i64) rfl h
  exact ⟨n, rfl⟩
theorem sh_on (p : PV) (h : Sh D 2 p) : ∃ x : On, p = eOn x ∧ True := by
  obtain ⟨ps, rfl, hq⟩ := Sh.inv_struct (D := D) (fs := [0, 1, 1]) rfl h
  match ps, hq with
  | [a, b, c], ⟨ha, hb, hc, _⟩ =>
    obtain ⟨s, rfl⟩ := sh_str a ha
    obtain ⟨n, rfl⟩ := sh_int hb
    obtain ⟨m, rfl⟩ := sh_int hc
    exact ⟨⟨s, n, m⟩, rfl, trivial⟩
theorem sh_cell (p : PV) (h : Sh D 6 p) : ∃ x : Cell, p = eCell x ∧ True := by
  obtain ⟨ps, rfl, hq⟩ := Sh.inv_struct (D := D) (fs := [1, 1]) rfl h
  match ps, hq with
  | [a, b], ⟨ha, hb, _⟩ =>
    obtain ⟨n, rfl⟩ := sh_int ha
    obtain ⟨m, rfl⟩ := sh_int hb
    exact ⟨⟨n, m⟩, rfl, trivial⟩
theorem sh_row (p : PV) (h : Sh D 7 p) : ∃ x : Row, p = eRow x ∧ x.length * 16 ≤ 140737488351232 := by
  obtain ⟨es, rfl, _, hl, hs⟩ := Sh.inv_slice (D := D) (e := 6) (b := 16) rfl h
  obtain ⟨l, rfl, _⟩ := all_map sh_cell es hs
  exact ⟨l, rfl, by simpa using hl⟩
theorem sh_decl (p : PV) (h : Sh D 4 p) : ∃ x : Decl, p = eDecl x ∧ (x.clock.length * 32 ≤ 140737488351232 ∧ x.name.length ≤ 9223372036854775807) := by
  obtain ⟨ps, rfl, hq⟩ := Sh.inv_struct (D := D) (fs := [0, 1, 3]) rfl h
  match ps, hq with
  | [a, b, c], ⟨ha, hb, hc, _⟩ =>
    obtain ⟨s, rfl, hs0⟩ := Sh.inv_str (D := D) rfl ha
    obtain ⟨n, rfl⟩ := sh_int hb
    obtain ⟨es, rfl, _, hl, hs⟩ := Sh.inv_slice (D := D) (e := 2) (b := 32) rfl hc
    obtain ⟨l, rfl, _⟩ := all_map sh_on es hs
    exact ⟨⟨s, n, l⟩, rfl, by simpa using hl, hs0⟩
theorem sh_trace (p : PV) (h : Sh D 9 p) : ∃ x : Cmp.Trace, p = eTrace x ∧ Far x := by
  obtain ⟨ps, rfl, hq⟩ := Sh.inv_struct (D := D) (fs := [5, 8]) rfl h
  match ps, hq with
  | [a, b], ⟨ha, hb, _⟩ =>
    obtain ⟨es, rfl, _, hl, hs⟩ := Sh.inv_slice (D := D) (e := 4) (b := 48) rfl ha
    obtain ⟨l, rfl, h1⟩ := all_map sh_decl es hs
    obtain ⟨fs, rfl, _, kl, ks⟩ := Sh.inv_slice (D := D) (e := 7) (b := 24) rfl hb
    obtain ⟨k, rfl, h2⟩ := all_map sh_row fs ks
    exact ⟨⟨l, k⟩, rfl, ⟨by simpa using hl, by simpa using kl, fun d hd => (h1 d hd).1, fun d hd => (h1 d hd).2, h2⟩⟩
theorem sh_names (p : PV) (h : Sh D 10 p) : ∃ l : List (List UInt8), p = .list false (l.map .str) ∧ l.length * 16 ≤ 140737488351232 := by
  obtain ⟨es, rfl, _, hl, hs⟩ := Sh.inv_slice (D := D) (e := 0) (b := 16) rfl h
  obtain ⟨l, rfl, _⟩ := all_map (G := fun _ => True) (fun q hq => by obtain ⟨s, rfl⟩ := sh_str q hq; exact ⟨s, rfl, trivial⟩) es hs
  exact ⟨l, rfl, by simpa using hl⟩

theorem two {pvs : List PV} (h : ShAll D [9, 9] pvs) : ∃ a b : Cmp.Trace, pvs = [eTrace a, eTrace b] ∧ Far a ∧ Far b := by
  match pvs, h with
  | [p, q], h =>
    obtain ⟨a, rfl, ha⟩ := sh_trace p h.1
    obtain ⟨b, rfl, hb⟩ := sh_trace q h.2.1
    exact ⟨a, b, rfl, ha, hb⟩
theorem named {pvs : List PV} (h : ShAll D [9, 10] pvs) : ∃ (a : Cmp.Trace) (l : List (List UInt8)), pvs = [eTrace a, .list false (l.map .str)] ∧ Far a ∧ l.length * 16 ≤ 140737488351232 := by
  match pvs, h with
  | [p, q], h =>
    obtain ⟨a, rfl, ha⟩ := sh_trace p h.1
    obtain ⟨l, rfl, hl⟩ := sh_names q h.2.1
    exact ⟨a, l, rfl, ha, hl⟩

theorem runCompareFirsts (pvs : List PV) (h : ShAll D [9, 9] pvs) : ∃ m h', call PI.Cmp.L m 0 pvs [] = some (.bool true, h') := by
  have : callL PI.Cmp.L 0 pvs [] = some (.bool true, []) := by obtain ⟨a, b, rfl, ha, hb⟩ := two h; exact firsts a b ha hb []
  obtain ⟨m, hm⟩ := callL_iff.1 this
  exact ⟨m, [], hm⟩
theorem idxCompareFirsts : ∀ i ∈ ([9, 9] : List Nat), i < 11 ∧ Try.prog.readableRec (tm i) = true ∧ tm i < Try.prog.types.size := fun i hi => types' i (by simp at hi; omega)
theorem liftedCompareFirsts (os : Os) (started : os.Started) (H : Type) (enc : TypeId × Value → H) :
    ReturnsInHanded {} Try.checked os 3 .any (Rows.compareFirstsSpec.pre6 enc Try.prog Try.f3 Rows.compareFirstsRow.domain false) (Rows.compareFirstsSpec.post enc Try.prog Try.f3 false true false false) := by
  refine returnsInHanded_of_change_sized (C := Try.checked) own started (by kernel_rfl) Try.func3
    (ChangeSpec.witness6 (enc := enc) (C := Try.checked) false ⟨#[], #[.agg #[.slice none 0 0, .slice none 0 0], .agg #[.slice none 0 0, .slice none 0 0]], []⟩ 8 (by kernel_rfl) (by kernel_rfl) (by kernel_rfl) (by kernel_rfl)) ?_
  intro W base args ds gs before hval hW _ hwg _
  exact pi_contract (base' := base) (N := N) (D := D) (tm := tm) (n := 11) (k := 0) (idxs := [9, 9]) (tb := 4) envOk rfl mixed libOk matches' laid (by kernel_rfl) idxCompareFirsts rfl Try.underlying4 (by kernel_rfl)
    (fun ds hl => by match ds, hl with | [_, _], _ => rfl) hval hW hwg (fun pvs h _ => runCompareFirsts pvs h)

theorem compareFirsts_holds : Rows.CompareFirstsSaid :=
  OpenClaim.holds_of_wide 3 Try.f3 rfl rfl rfl rfl rfl rfl rfl ⟨rfl, rfl, rfl, rfl, rfl⟩ rfl rfl rfl rfl rfl (by kernel_rfl) Try.func3 (by kernel_rfl)
    (of_decide_eq_true (by kernel_rfl)) (by unfold Func.isWrapper; first | (rw [if_pos (by decide +kernel)]; kernel_rfl) | (rw [if_neg (by decide +kernel)]; exact ⟨rfl, rfl⟩))
    (fun os started H enc _ => liftedCompareFirsts os started H enc)

theorem runCompareProjects (pvs : List PV) (h : ShAll D [9, 10] pvs) : ∃ m h', call PI.Cmp.L m 1 pvs [] = some (.bool true, h') := by
  have : callL PI.Cmp.L 1 pvs [] = some (.bool true, []) := by obtain ⟨a, l, rfl, ha, hl⟩ := named h; exact projects a l false ha hl []
  obtain ⟨m, hm⟩ := callL_iff.1 this
  exact ⟨m, [], hm⟩
theorem idxCompareProjects : ∀ i ∈ ([9, 10] : List Nat), i < 11 ∧ Try.prog.readableRec (tm i) = true ∧ tm i < Try.prog.types.size := fun i hi => types' i (by simp at hi; omega)
theorem liftedCompareProjects (os : Os) (started : os.Started) (H : Type) (enc : TypeId × Value → H) :
    ReturnsInHanded {} Try.checked os 4 .any (Rows.compareProjectsSpec.pre6 enc Try.prog Try.f4 Rows.compareProjectsRow.domain false) (Rows.compareProjectsSpec.post enc Try.prog Try.f4 false true false false) := by
  refine returnsInHanded_of_change_sized (C := Try.checked) own started (by kernel_rfl) Try.func4
    (ChangeSpec.witness6 (enc := enc) (C := Try.checked) false ⟨#[], #[.agg #[.slice none 0 0, .slice none 0 0], .slice none 0 0], []⟩ 8 (by kernel_rfl) (by kernel_rfl) (by kernel_rfl) (by kernel_rfl)) ?_
  intro W base args ds gs before hval hW _ hwg _
  exact pi_contract (base' := base) (N := N) (D := D) (tm := tm) (n := 11) (k := 1) (idxs := [9, 10]) (tb := 4) envOk rfl mixed libOk matches' laid (by kernel_rfl) idxCompareProjects rfl Try.underlying4 (by kernel_rfl)
    (fun ds hl => by match ds, hl with | [_, _], _ => rfl) hval hW hwg (fun pvs h _ => runCompareProjects pvs h)

theorem compareProjects_holds : Rows.CompareProjectsSaid :=
  OpenClaim.holds_of_wide 4 Try.f4 rfl rfl rfl rfl rfl rfl rfl ⟨rfl, rfl, rfl, rfl, rfl⟩ rfl rfl rfl rfl rfl (by kernel_rfl) Try.func4 (by kernel_rfl)
    (of_decide_eq_true (by kernel_rfl)) (by unfold Func.isWrapper; first | (rw [if_pos (by decide +kernel)]; kernel_rfl) | (rw [if_neg (by decide +kernel)]; exact ⟨rfl, rfl⟩))
    (fun os started H enc _ => liftedCompareProjects os started H enc)

theorem runCompareAppends (pvs : List PV) (h : ShAll D [9, 9] pvs) : ∃ m h', call PI.Cmp.L m 2 pvs [] = some (.bool true, h') := by
  have : callL PI.Cmp.L 2 pvs [] = some (.bool true, []) := by obtain ⟨a, b, rfl, ha, hb⟩ := two h; exact appends a b ha hb []
  obtain ⟨m, hm⟩ := callL_iff.1 this
  exact ⟨m, [], hm⟩
theorem idxCompareAppends : ∀ i ∈ ([9, 9] : List Nat), i < 11 ∧ Try.prog.readableRec (tm i) = true ∧ tm i < Try.prog.types.size := fun i hi => types' i (by simp at hi; omega)
theorem liftedCompareAppends (os : Os) (started : os.Started) (H : Type) (enc : TypeId × Value → H) :
    ReturnsInHanded {} Try.checked os 5 .any (Rows.compareAppendsSpec.pre6 enc Try.prog Try.f5 Rows.compareAppendsRow.domain false) (Rows.compareAppendsSpec.post enc Try.prog Try.f5 false true false false) := by
  refine returnsInHanded_of_change_sized (C := Try.checked) own started (by kernel_rfl) Try.func5
    (ChangeSpec.witness6 (enc := enc) (C := Try.checked) false ⟨#[], #[.agg #[.slice none 0 0, .slice none 0 0], .agg #[.slice none 0 0, .slice none 0 0]], []⟩ 8 (by kernel_rfl) (by kernel_rfl) (by kernel_rfl) (by kernel_rfl)) ?_
  intro W base args ds gs before hval hW _ hwg _
  exact pi_contract (base' := base) (N := N) (D := D) (tm := tm) (n := 11) (k := 2) (idxs := [9, 9]) (tb := 4) envOk rfl mixed libOk matches' laid (by kernel_rfl) idxCompareAppends rfl Try.underlying4 (by kernel_rfl)
    (fun ds hl => by match ds, hl with | [_, _], _ => rfl) hval hW hwg (fun pvs h _ => runCompareAppends pvs h)

theorem compareAppends_holds : Rows.CompareAppendsSaid :=
  OpenClaim.holds_of_wide 5 Try.f5 rfl rfl rfl rfl rfl rfl rfl ⟨rfl, rfl, rfl, rfl, rfl⟩ rfl rfl rfl rfl rfl (by kernel_rfl) Try.func5 (by kernel_rfl)
    (of_decide_eq_true (by kernel_rfl)) (by unfold Func.isWrapper; first | (rw [if_pos (by decide +kernel)]; kernel_rfl) | (rw [if_neg (by decide +kernel)]; exact ⟨rfl, rfl⟩))
    (fun os started H enc _ => liftedCompareAppends os started H enc)

theorem runCompareCommon (pvs : List PV) (h : ShAll D [9, 9] pvs) : ∃ m h', call PI.Cmp.L m 3 pvs [] = some (.bool true, h') := by
  have : callL PI.Cmp.L 3 pvs [] = some (.bool true, []) := by obtain ⟨a, b, rfl, ha, hb⟩ := two h; exact commons a b ha hb []
  obtain ⟨m, hm⟩ := callL_iff.1 this
  exact ⟨m, [], hm⟩
theorem idxCompareCommon : ∀ i ∈ ([9, 9] : List Nat), i < 11 ∧ Try.prog.readableRec (tm i) = true ∧ tm i < Try.prog.types.size := fun i hi => types' i (by simp at hi; omega)
theorem liftedCompareCommon (os : Os) (started : os.Started) (H : Type) (enc : TypeId × Value → H) :
    ReturnsInHanded {} Try.checked os 6 .any (Rows.compareCommonSpec.pre6 enc Try.prog Try.f6 Rows.compareCommonRow.domain false) (Rows.compareCommonSpec.post enc Try.prog Try.f6 false true false false) := by
  refine returnsInHanded_of_change_sized (C := Try.checked) own started (by kernel_rfl) Try.func6
    (ChangeSpec.witness6 (enc := enc) (C := Try.checked) false ⟨#[], #[.agg #[.slice none 0 0, .slice none 0 0], .agg #[.slice none 0 0, .slice none 0 0]], []⟩ 8 (by kernel_rfl) (by kernel_rfl) (by kernel_rfl) (by kernel_rfl)) ?_
  intro W base args ds gs before hval hW _ hwg _
  exact pi_contract (base' := base) (N := N) (D := D) (tm := tm) (n := 11) (k := 3) (idxs := [9, 9]) (tb := 4) envOk rfl mixed libOk matches' laid (by kernel_rfl) idxCompareCommon rfl Try.underlying4 (by kernel_rfl)
    (fun ds hl => by match ds, hl with | [_, _], _ => rfl) hval hW hwg (fun pvs h _ => runCompareCommon pvs h)

theorem compareCommon_holds : Rows.CompareCommonSaid :=
  OpenClaim.holds_of_wide 6 Try.f6 rfl rfl rfl rfl rfl rfl rfl ⟨rfl, rfl, rfl, rfl, rfl⟩ rfl rfl rfl rfl rfl (by kernel_rfl) Try.func6 (by kernel_rfl)
    (of_decide_eq_true (by kernel_rfl)) (by unfold Func.isWrapper; first | (rw [if_pos (by decide +kernel)]; kernel_rfl) | (rw [if_neg (by decide +kernel)]; exact ⟨rfl, rfl⟩))
    (fun os started H enc _ => liftedCompareCommon os started H enc)
end Go.Proofs.Ytehmgnnalbielaa.Pi
