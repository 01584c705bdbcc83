/-
  Statements on compare hold of the translated program: the law returns true and leaves its arguments as they were. Unconditional; proved by way of a pure interpreter that is shown to be sound for the machine.
-/
import Derived.Test.YtehmgnnalbielaaRows
import Derived.Test.YtehmgnnalbielaaPiCmpSeat
import Derived.Test.YtehmgnnalbielaaPiCmpRun11
import Derived.Test.YtehmgnnalbielaaPiClose
import Derived.WalkKit
import Derived.ProofKit
import Derived.OpenShut
import Derived.JoinedCond
set_option maxRecDepth 100000
set_option linter.unusedVariables false
namespace Go.Proofs.Ytehmgnnalbielaa.Pi
open Go.ChangeShapes Go.WideShapes Go.ChangeAt Go.RowKit PI PI.Cmp

theorem own : ownKnob Try.prog.godebug = none := by kernel_rfl

def D : Nat → TyD
  | 0 => .str
  | 1 => .int .i64
  | 2 => .struct [0, 1, 1]
  | 3 => .slice 2
  | 4 => .struct [0, 1, 3]
  | 5 => .slice 4
  | 6 => .struct [1, 1]
  | 7 => .slice 6
  | 8 => .slice 7
  | 9 => .struct [5, 8]
  | _ => .slice 0
def tm : Nat → TypeId
  | 0 => 9
  | 1 => 3
  | 2 => 79
  | 3 => 57
  | 4 => 59
  | 5 => 22
  | 6 => 42
  | 7 => 40
  | 8 => 23
  | 9 => 25
  | _ => 30
theorem matchAll : (List.range 11).all (fun i => matchT Try.prog D tm 11 i) = true := by kernel_rfl
theorem matches' : ∀ i, i < 11 → matchT Try.prog D tm 11 i = true := by
  intro i hi
  exact List.all_eq_true.1 matchAll i (by simpa using hi)
theorem laid : laidOutB Try.prog = true := by kernel_rfl
theorem typesOk : (List.range 11).all (fun i => Try.prog.readableRec (tm i) && decide (tm i < Try.prog.types.size)) = true := by kernel_rfl
theorem types' (i : Nat) (hi : i < 11) : i < 11 ∧ Try.prog.readableRec (tm i) = true ∧ tm i < Try.prog.types.size := by
  have := List.all_eq_true.1 typesOk i (by simpa using hi)
  simp only [Bool.and_eq_true, decide_eq_true_eq] at this
  exact ⟨hi, this⟩

/-! ### What is given, as traces -/

theorem all_map {α : Type} {f : α → PV} {i : Nat} (hf : ∀ p, Sh D i p → ∃ x, p = f x) : ∀ es : List PV, (∀ x ∈ es, Sh D i x) → ∃ l : List α, es = l.map f
  | [], _ => ⟨[], rfl⟩
  | x :: xs, h => by
    obtain ⟨y, rfl⟩ := hf x (h x (List.mem_cons_self ..))
    obtain ⟨l, rfl⟩ := all_map hf xs (fun y hy => h y (List.mem_cons_of_mem _ hy))
    exact ⟨y :: l, rfl⟩
theorem sh_str (p : PV) (h : Sh D 0 p) : ∃ s, p = .str s := by
  obtain ⟨s, rfl, _⟩ := Sh.inv_str (D := D) rfl h
  exact ⟨s, rfl⟩
theorem sh_int {p : PV} (h : Sh D 1 p) : ∃ n, p = .int .i64 n := by
  obtain ⟨n, rfl, _⟩ := Sh.inv_int (D := D) (k := .i64) rfl h
  exact ⟨n, rfl⟩
theorem sh_on (p : PV) (h : Sh D 2 p) : ∃ x : On, p = eOn x := by
  obtain ⟨ps, rfl, hq⟩ := Sh.inv_struct (D := D) (fs := [0, 1, 1]) rfl h
  match ps, hq with
  | [a, b, c], ⟨ha, hb, hc, _⟩ =>
    obtain ⟨s, rfl⟩ := sh_str a ha
    obtain ⟨n, rfl⟩ := sh_int hb
    obtain ⟨m, rfl⟩ := sh_int hc
    exact ⟨⟨s, n, m⟩, rfl⟩
theorem sh_cell (p : PV) (h : Sh D 6 p) : ∃ x : Cell, p = eCell x := by
  obtain ⟨ps, rfl, hq⟩ := Sh.inv_struct (D := D) (fs := [1, 1]) rfl h
  match ps, hq with
  | [a, b], ⟨ha, hb, _⟩ =>
    obtain ⟨n, rfl⟩ := sh_int ha
    obtain ⟨m, rfl⟩ := sh_int hb
    exact ⟨⟨n, m⟩, rfl⟩
theorem sh_row (p : PV) (h : Sh D 7 p) : ∃ x : Row, p = eRow x := by
  obtain ⟨es, rfl, _, hs⟩ := Sh.inv_slice (D := D) (e := 6) rfl h
  obtain ⟨l, rfl⟩ := all_map sh_cell es hs
  exact ⟨l, rfl⟩
theorem sh_decl (p : PV) (h : Sh D 4 p) : ∃ x : Decl, p = eDecl x := by
  obtain ⟨ps, rfl, hq⟩ := Sh.inv_struct (D := D) (fs := [0, 1, 3]) rfl h
  match ps, hq with
  | [a, b, c], ⟨ha, hb, hc, _⟩ =>
    obtain ⟨s, rfl⟩ := sh_str a ha
    obtain ⟨n, rfl⟩ := sh_int hb
    obtain ⟨es, rfl, _, hs⟩ := Sh.inv_slice (D := D) (e := 2) rfl hc
    obtain ⟨l, rfl⟩ := all_map sh_on es hs
    exact ⟨⟨s, n, l⟩, rfl⟩
theorem sh_trace (p : PV) (h : Sh D 9 p) : ∃ x : Cmp.Trace, p = eTrace x := by
  obtain ⟨ps, rfl, hq⟩ := Sh.inv_struct (D := D) (fs := [5, 8]) rfl h
  match ps, hq with
  | [a, b], ⟨ha, hb, _⟩ =>
    obtain ⟨es, rfl, _, hs⟩ := Sh.inv_slice (D := D) (e := 4) rfl ha
    obtain ⟨l, rfl⟩ := all_map sh_decl es hs
    obtain ⟨fs, rfl, _, ks⟩ := Sh.inv_slice (D := D) (e := 7) rfl hb
    obtain ⟨k, rfl⟩ := all_map sh_row fs ks
    exact ⟨⟨l, k⟩, rfl⟩
theorem sh_names (p : PV) (h : Sh D 10 p) : ∃ l : List (List UInt8), p = .list false (l.map .str) := by
  obtain ⟨es, rfl, _, hs⟩ := Sh.inv_slice (D := D) (e := 0) rfl h
  obtain ⟨l, rfl⟩ := all_map sh_str es hs
  exact ⟨l, rfl⟩

/-! ### Sizes -/

theorem wt_pos (p : PV) : 1 ≤ wt p := by cases p <;> simp [wt]
theorem wts_len {α : Type} (f : α → PV) : ∀ l : List α, l.length ≤ wts (l.map f)
  | [] => by simp
  | x :: l => by
    have := wt_pos (f x)
    have := wts_len f l
    simp only [List.map_cons, wts, List.length_cons]
    omega
theorem wts_mem {α : Type} (f : α → PV) {x : α} : ∀ {l : List α}, x ∈ l → wt (f x) ≤ wts (l.map f)
  | [], h => by simp at h
  | y :: l, h => by
    simp only [List.map_cons, wts]
    rcases List.mem_cons.1 h with rfl | h
    · omega
    · have := wts_mem f h; omega
theorem sm_of {t : Cmp.Trace} (h : wt (eTrace t) ≤ 1048576) : Sm t := by
  simp only [eTrace, wt, wts] at h
  have h1 := wts_len eDecl t.cols
  have h2 := wts_len eRow t.rows
  refine ⟨by omega, by omega, ?_, ?_⟩
  · intro d hd
    have h3 := wts_mem eDecl hd
    have h4 := wts_len eOn d.clock
    simp only [eDecl, wt, wts] at h3
    omega
  · intro r hr
    have h3 := wts_mem eRow hr
    have h4 := wts_len eCell r
    simp only [eRow, wt] at h3
    omega

mutual
theorem bulk {H : Type} : ∀ d : DataW H, Rows.uptoBulk d = dbulk d
  | .lit x => by cases x <;> rfl
  | .nil => rfl
  | .ptr d => by simp only [Rows.uptoBulk, dbulk, bulk d]
  | .slice es sp => by simp only [Rows.uptoBulk, dbulk, bulkAll es, bulkAll sp]
  | .agg ps => by simp only [Rows.uptoBulk, dbulk, bulkAll ps]
  | .iface _ d => by simp only [Rows.uptoBulk, dbulk, bulk d]
  | .map es => by simp only [Rows.uptoBulk, dbulk, bulkEntries es]
  | .held _ => rfl
theorem bulkAll {H : Type} : ∀ ds : List (DataW H), Rows.uptoBulkAll ds = dbulkAll ds
  | [] => rfl
  | d :: r => by simp only [Rows.uptoBulkAll, dbulkAll, bulk d, bulkAll r]
theorem bulkEntries {H : Type} : ∀ ds : List (Lit × DataW H), Rows.uptoBulkEntries ds = dbulkEntries ds
  | [] => rfl
  | x :: r => by simp only [Rows.uptoBulkEntries, dbulkEntries, bulkEntry x, bulkEntries r]
theorem bulkEntry {H : Type} : ∀ x : Lit × DataW H, Rows.uptoBulkEntry x = dbulkEntry x
  | (l, d) => by cases l <;> simp only [Rows.uptoBulkEntry, dbulkEntry, bulk d]
end

theorem small_of {H : Type} {ds : List (DataW H)} {pvs : List PV} (hk : Rows.uptoSmall H ds = true) (h : wts pvs ≤ dbulkAll ds) : wts pvs ≤ 1048576 := by
  have : Rows.uptoBulkAll ds ≤ 1048576 := of_decide_eq_true hk
  rw [bulkAll] at this
  omega

theorem two {pvs : List PV} (h : ShAll D [9, 9] pvs) (hw : wts pvs ≤ 1048576) : ∃ a b : Cmp.Trace, pvs = [eTrace a, eTrace b] ∧ Sm a ∧ Sm b := by
  match pvs, h with
  | [p, q], h =>
    obtain ⟨a, rfl⟩ := sh_trace p h.1
    obtain ⟨b, rfl⟩ := sh_trace q h.2.1
    simp only [wts] at hw
    exact ⟨a, b, rfl, sm_of (by omega), sm_of (by omega)⟩
theorem named {pvs : List PV} (h : ShAll D [9, 10] pvs) (hw : wts pvs ≤ 1048576) : ∃ (a : Cmp.Trace) (l : List (List UInt8)), pvs = [eTrace a, .list false (l.map .str)] ∧ Sm a ∧ l.length ≤ 1048576 := by
  match pvs, h with
  | [p, q], h =>
    obtain ⟨a, rfl⟩ := sh_trace p h.1
    obtain ⟨l, rfl⟩ := sh_names q h.2.1
    have := wts_len PV.str l
    simp only [wts, wt] at hw
    exact ⟨a, l, rfl, sm_of (by omega), by omega⟩

theorem runCompareFirsts (pvs : List PV) (h : ShAll D [9, 9] pvs) (hw : wts pvs ≤ 1048576) : ∃ m h', call PI.Cmp.L m 0 pvs [] = some (.bool true, h') := by
  have : callL PI.Cmp.L 0 pvs [] = some (.bool true, []) := by obtain ⟨a, b, rfl, ha, hb⟩ := two h hw; exact firsts a b ha hb []
  obtain ⟨m, hm⟩ := callL_iff.1 this
  exact ⟨m, [], hm⟩
theorem idxCompareFirsts : ∀ i ∈ ([9, 9] : List Nat), i < 11 ∧ Try.prog.readableRec (tm i) = true ∧ tm i < Try.prog.types.size := fun i hi => types' i (by simp at hi; omega)
theorem liftedCompareFirsts (os : Os) (started : os.Started) (H : Type) (enc : TypeId × Value → H) (F : Stop.Interp) :
    ReturnsInHanded {} Try.checked os 3 .any ((Rows.OpenSpec.upto Rows.compareFirstsSpec).pre6 enc Try.prog Try.f3 Rows.compareFirstsUptoRow.domain false) (((Rows.OpenSpec.upto Rows.compareFirstsSpec).at F).post enc Try.prog Try.f3 false true false false) := by
  refine returnsInHanded_of_cond (C := Try.checked) (s := Rows.OpenSpec.upto Rows.compareFirstsSpec) (k := Rows.uptoSmall) rfl own started (by kernel_rfl) Try.func3
    (OpenSpec.witness (enc := enc) (C := Try.checked) (s := Rows.OpenSpec.upto Rows.compareFirstsSpec) (k := Rows.uptoSmall) rfl false ⟨#[], #[.agg #[.slice none 0 0, .slice none 0 0], .agg #[.slice none 0 0, .slice none 0 0]], []⟩ 8 (by kernel_rfl) (by kernel_rfl) (by kernel_rfl)
      (x := ([.agg [.nil, .nil], .agg [.nil, .nil]], [], [])) (by kernel_rfl) rfl (by kernel_rfl)) ?_
  intro W base args ds gs before hval hW _ hk _
  exact pi_contract (s := Rows.compareFirstsSpec) (base' := base) (N := N) (D := D) (tm := tm) (n := 11) (k := 0) (idxs := [9, 9]) (tb := 4) envOk rfl mixed libOk matches' laid (by kernel_rfl) idxCompareFirsts rfl Try.underlying4 (by kernel_rfl)
    (fun ds hl => by match ds, hl with | [_, _], _ => rfl) hval hW (fun pvs h hw => runCompareFirsts pvs h (small_of hk hw))

theorem compareFirsts_holds : Rows.CompareFirstsUptoSaid :=
  OpenClaim.holds_of_cond 3 Try.f3 rfl rfl rfl rfl rfl rfl rfl ⟨rfl, rfl, rfl, rfl, rfl⟩ rfl rfl rfl rfl rfl (by kernel_rfl) Try.func3 (by kernel_rfl)
    (of_decide_eq_true (by kernel_rfl)) (by unfold Func.isWrapper; first | (rw [if_pos (by decide +kernel)]; kernel_rfl) | (rw [if_neg (by decide +kernel)]; exact ⟨rfl, rfl⟩))
    (fun os started H enc _ F => liftedCompareFirsts os started H enc F)

theorem runCompareProjects (pvs : List PV) (h : ShAll D [9, 10] pvs) (hw : wts pvs ≤ 1048576) : ∃ m h', call PI.Cmp.L m 1 pvs [] = some (.bool true, h') := by
  have : callL PI.Cmp.L 1 pvs [] = some (.bool true, []) := by obtain ⟨a, l, rfl, ha, hl⟩ := named h hw; exact projects a l false ha hl []
  obtain ⟨m, hm⟩ := callL_iff.1 this
  exact ⟨m, [], hm⟩
theorem idxCompareProjects : ∀ i ∈ ([9, 10] : List Nat), i < 11 ∧ Try.prog.readableRec (tm i) = true ∧ tm i < Try.prog.types.size := fun i hi => types' i (by simp at hi; omega)
theorem liftedCompareProjects (os : Os) (started : os.Started) (H : Type) (enc : TypeId × Value → H) (F : Stop.Interp) :
    ReturnsInHanded {} Try.checked os 4 .any ((Rows.OpenSpec.upto Rows.compareProjectsSpec).pre6 enc Try.prog Try.f4 Rows.compareProjectsUptoRow.domain false) (((Rows.OpenSpec.upto Rows.compareProjectsSpec).at F).post enc Try.prog Try.f4 false true false false) := by
  refine returnsInHanded_of_cond (C := Try.checked) (s := Rows.OpenSpec.upto Rows.compareProjectsSpec) (k := Rows.uptoSmall) rfl own started (by kernel_rfl) Try.func4
    (OpenSpec.witness (enc := enc) (C := Try.checked) (s := Rows.OpenSpec.upto Rows.compareProjectsSpec) (k := Rows.uptoSmall) rfl false ⟨#[], #[.agg #[.slice none 0 0, .slice none 0 0], .slice none 0 0], []⟩ 8 (by kernel_rfl) (by kernel_rfl) (by kernel_rfl)
      (x := ([.agg [.nil, .nil], .nil], [], [])) (by kernel_rfl) rfl (by kernel_rfl)) ?_
  intro W base args ds gs before hval hW _ hk _
  exact pi_contract (s := Rows.compareProjectsSpec) (base' := base) (N := N) (D := D) (tm := tm) (n := 11) (k := 1) (idxs := [9, 10]) (tb := 4) envOk rfl mixed libOk matches' laid (by kernel_rfl) idxCompareProjects rfl Try.underlying4 (by kernel_rfl)
    (fun ds hl => by match ds, hl with | [_, _], _ => rfl) hval hW (fun pvs h hw => runCompareProjects pvs h (small_of hk hw))

theorem compareProjects_holds : Rows.CompareProjectsUptoSaid :=
  OpenClaim.holds_of_cond 4 Try.f4 rfl rfl rfl rfl rfl rfl rfl ⟨rfl, rfl, rfl, rfl, rfl⟩ rfl rfl rfl rfl rfl (by kernel_rfl) Try.func4 (by kernel_rfl)
    (of_decide_eq_true (by kernel_rfl)) (by unfold Func.isWrapper; first | (rw [if_pos (by decide +kernel)]; kernel_rfl) | (rw [if_neg (by decide +kernel)]; exact ⟨rfl, rfl⟩))
    (fun os started H enc _ F => liftedCompareProjects os started H enc F)

theorem runCompareAppends (pvs : List PV) (h : ShAll D [9, 9] pvs) (hw : wts pvs ≤ 1048576) : ∃ m h', call PI.Cmp.L m 2 pvs [] = some (.bool true, h') := by
  have : callL PI.Cmp.L 2 pvs [] = some (.bool true, []) := by obtain ⟨a, b, rfl, ha, hb⟩ := two h hw; exact appends a b ha hb []
  obtain ⟨m, hm⟩ := callL_iff.1 this
  exact ⟨m, [], hm⟩
theorem idxCompareAppends : ∀ i ∈ ([9, 9] : List Nat), i < 11 ∧ Try.prog.readableRec (tm i) = true ∧ tm i < Try.prog.types.size := fun i hi => types' i (by simp at hi; omega)
theorem liftedCompareAppends (os : Os) (started : os.Started) (H : Type) (enc : TypeId × Value → H) (F : Stop.Interp) :
    ReturnsInHanded {} Try.checked os 5 .any ((Rows.OpenSpec.upto Rows.compareAppendsSpec).pre6 enc Try.prog Try.f5 Rows.compareAppendsUptoRow.domain false) (((Rows.OpenSpec.upto Rows.compareAppendsSpec).at F).post enc Try.prog Try.f5 false true false false) := by
  refine returnsInHanded_of_cond (C := Try.checked) (s := Rows.OpenSpec.upto Rows.compareAppendsSpec) (k := Rows.uptoSmall) rfl own started (by kernel_rfl) Try.func5
    (OpenSpec.witness (enc := enc) (C := Try.checked) (s := Rows.OpenSpec.upto Rows.compareAppendsSpec) (k := Rows.uptoSmall) rfl false ⟨#[], #[.agg #[.slice none 0 0, .slice none 0 0], .agg #[.slice none 0 0, .slice none 0 0]], []⟩ 8 (by kernel_rfl) (by kernel_rfl) (by kernel_rfl)
      (x := ([.agg [.nil, .nil], .agg [.nil, .nil]], [], [])) (by kernel_rfl) rfl (by kernel_rfl)) ?_
  intro W base args ds gs before hval hW _ hk _
  exact pi_contract (s := Rows.compareAppendsSpec) (base' := base) (N := N) (D := D) (tm := tm) (n := 11) (k := 2) (idxs := [9, 9]) (tb := 4) envOk rfl mixed libOk matches' laid (by kernel_rfl) idxCompareAppends rfl Try.underlying4 (by kernel_rfl)
    (fun ds hl => by match ds, hl with | [_, _], _ => rfl) hval hW (fun pvs h hw => runCompareAppends pvs h (small_of hk hw))

theorem compareAppends_holds : Rows.CompareAppendsUptoSaid :=
  OpenClaim.holds_of_cond 5 Try.f5 rfl rfl rfl rfl rfl rfl rfl ⟨rfl, rfl, rfl, rfl, rfl⟩ rfl rfl rfl rfl rfl (by kernel_rfl) Try.func5 (by kernel_rfl)
    (of_decide_eq_true (by kernel_rfl)) (by unfold Func.isWrapper; first | (rw [if_pos (by decide +kernel)]; kernel_rfl) | (rw [if_neg (by decide +kernel)]; exact ⟨rfl, rfl⟩))
    (fun os started H enc _ F => liftedCompareAppends os started H enc F)

theorem runCompareCommon (pvs : List PV) (h : ShAll D [9, 9] pvs) (hw : wts pvs ≤ 1048576) : ∃ m h', call PI.Cmp.L m 3 pvs [] = some (.bool true, h') := by
  have : callL PI.Cmp.L 3 pvs [] = some (.bool true, []) := by obtain ⟨a, b, rfl, ha, hb⟩ := two h hw; exact commons a b ha hb []
  obtain ⟨m, hm⟩ := callL_iff.1 this
  exact ⟨m, [], hm⟩
theorem idxCompareCommon : ∀ i ∈ ([9, 9] : List Nat), i < 11 ∧ Try.prog.readableRec (tm i) = true ∧ tm i < Try.prog.types.size := fun i hi => types' i (by simp at hi; omega)
theorem liftedCompareCommon (os : Os) (started : os.Started) (H : Type) (enc : TypeId × Value → H) (F : Stop.Interp) :
    ReturnsInHanded {} Try.checked os 6 .any ((Rows.OpenSpec.upto Rows.compareCommonSpec).pre6 enc Try.prog Try.f6 Rows.compareCommonUptoRow.domain false) (((Rows.OpenSpec.upto Rows.compareCommonSpec).at F).post enc Try.prog Try.f6 false true false false) := by
  refine returnsInHanded_of_cond (C := Try.checked) (s := Rows.OpenSpec.upto Rows.compareCommonSpec) (k := Rows.uptoSmall) rfl own started (by kernel_rfl) Try.func6
    (OpenSpec.witness (enc := enc) (C := Try.checked) (s := Rows.OpenSpec.upto Rows.compareCommonSpec) (k := Rows.uptoSmall) rfl false ⟨#[], #[.agg #[.slice none 0 0, .slice none 0 0], .agg #[.slice none 0 0, .slice none 0 0]], []⟩ 8 (by kernel_rfl) (by kernel_rfl) (by kernel_rfl)
      (x := ([.agg [.nil, .nil], .agg [.nil, .nil]], [], [])) (by kernel_rfl) rfl (by kernel_rfl)) ?_
  intro W base args ds gs before hval hW _ hk _
  exact pi_contract (s := Rows.compareCommonSpec) (base' := base) (N := N) (D := D) (tm := tm) (n := 11) (k := 3) (idxs := [9, 9]) (tb := 4) envOk rfl mixed libOk matches' laid (by kernel_rfl) idxCompareCommon rfl Try.underlying4 (by kernel_rfl)
    (fun ds hl => by match ds, hl with | [_, _], _ => rfl) hval hW (fun pvs h hw => runCompareCommon pvs h (small_of hk hw))

theorem compareCommon_holds : Rows.CompareCommonUptoSaid :=
  OpenClaim.holds_of_cond 6 Try.f6 rfl rfl rfl rfl rfl rfl rfl ⟨rfl, rfl, rfl, rfl, rfl⟩ rfl rfl rfl rfl rfl (by kernel_rfl) Try.func6 (by kernel_rfl)
    (of_decide_eq_true (by kernel_rfl)) (by unfold Func.isWrapper; first | (rw [if_pos (by decide +kernel)]; kernel_rfl) | (rw [if_neg (by decide +kernel)]; exact ⟨rfl, rfl⟩))
    (fun os started H enc _ F => liftedCompareCommon os started H enc F)
end Go.Proofs.Ytehmgnnalbielaa.Pi
