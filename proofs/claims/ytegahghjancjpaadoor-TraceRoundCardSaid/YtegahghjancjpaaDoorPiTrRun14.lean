/-
  What the laws' helpers come to: equal traces; different names.
-/
import Derived.Test.YtegahghjancjpaaDoorPiTrRun13
set_option maxRecDepth 100000
set_option linter.unusedSimpArgs false
set_option linter.unusedVariables false
namespace PI.Tr
open Go (IntKind BinOp UnOp)

/-- Every length of a trace is one of a machine. -/
structure Lens (t : Trace) : Prop where
  cols : t.cols.length ≤ 140737488355328
  rows : t.rows.length ≤ 140737488355328
  clock : ∀ d ∈ t.cols, d.clock.length ≤ 140737488355328
  row : ∀ r ∈ t.rows, r.length ≤ 140737488355328

section
variable {L : Nat → Option PFunc} (hL : ∀ k f, Lc k = some f → L k = some f)
include hL

theorem same_clock (a b : List Decl) (i : Nat) (hi : i < a.length) (hi2 : i < b.length) (hl : a[i].clock.length = b[i].clock.length) (hb : a[i].clock.length ≤ 140737488355328) (p0 p1 A B x7 x8 : PV) (g : Nat) (h : List PObj) {Q : PExit → St → Prop}
    (h0 : a[i].clock = b[i].clock → ∀ y, Q (.exit 2) ⟨[p0, p1, .loc 0 [.list false (a.map eDecl), A], .loc 1 [.list false (b.map eDecl), B], .bool false, .int .i64 i, y, x7, x8], [], g, h⟩)
    (h1 : a[i].clock ≠ b[i].clock → ∀ y, Q .ret ⟨[p0, p1, .loc 0 [.list false (a.map eDecl), A], .loc 1 [.list false (b.map eDecl), B], .bool false, .int .i64 i, y, x7, x8], [], g, h⟩) :
    wpL L f_ref43_Same_l0 ⟨[p0, p1, .loc 0 [.list false (a.map eDecl), A], .loc 1 [.list false (b.map eDecl), B], .bool false, .int .i64 i, .int .i64 0, x7, x8], [], g, h⟩ Q := by
  have _ := hL
  refine loop_upd a[i].clock.length (fun k => decide (a[i].clock.getD k default = b[i].clock.getD k default)) (fun k (x : Unit) => [(6, .int .i64 k)]) (fun _ _ => h) () ?_ ?_ ?_ rfl rfl
  · intro k hk hz x ih
    have hw := wrap_succ k (by omega)
    have hk2 : k < b[i].clock.length := by omega
    simp [List.getD, hk, hk2] at hz
    simp [hi, hi2, hk, hk2, hz, hw]
    simpa using ih ()
  · intro k hk hz hk' x
    have hk2 : k < b[i].clock.length := by omega
    simp [List.getD, hk, hk2] at hz
    have hne : a[i].clock ≠ b[i].clock := by
      intro e
      apply hz
      simp [e]
    simp [hi, hi2, hk, hk2, hz]
    exact h1 hne _
  · intro hz x
    have heq : a[i].clock = b[i].clock := by
      apply List.ext_getElem hl
      intro k h1 h2
      have := hz k h1
      simpa [List.getD, h1, h2] using this
    simp [hi, hi2]
    exact h0 heq _

theorem same_row (a b : List Row) (i : Nat) (hi : i < a.length) (hi2 : i < b.length) (hl : a[i].length = b[i].length) (hb : a[i].length ≤ 140737488355328) (p0 p1 A B x5 x6 : PV) (g : Nat) (h : List PObj) {Q : PExit → St → Prop}
    (h0 : a[i] = b[i] → ∀ y, Q (.exit 6) ⟨[p0, p1, .loc 0 [A, .list false (a.map eRow)], .loc 1 [B, .list false (b.map eRow)], .bool false, x5, x6, .int .i64 i, y], [], g, h⟩)
    (h1 : a[i] ≠ b[i] → ∀ y, Q .ret ⟨[p0, p1, .loc 0 [A, .list false (a.map eRow)], .loc 1 [B, .list false (b.map eRow)], .bool false, x5, x6, .int .i64 i, y], [], g, h⟩) :
    wpL L f_ref43_Same_l2 ⟨[p0, p1, .loc 0 [A, .list false (a.map eRow)], .loc 1 [B, .list false (b.map eRow)], .bool false, x5, x6, .int .i64 i, .int .i64 0], [], g, h⟩ Q := by
  have _ := hL
  have hin : PV.list false (a[i].map eCell) = eRow a[i] := rfl
  refine loop_upd a[i].length (fun k => decide (List.getD a[i] k default = List.getD b[i] k default)) (fun k (x : Unit) => [(8, .int .i64 k)]) (fun _ _ => h) () ?_ ?_ ?_ rfl rfl
  · intro k hk hz x ih
    have hw := wrap_succ k (by omega)
    have hk2 : k < b[i].length := by omega
    simp [List.getD, hk, hk2] at hz
    simp [hi, hi2, eRow, hk, hk2, hz, hw]
    simpa using ih ()
  · intro k hk hz hk' x
    have hk2 : k < b[i].length := by omega
    simp [List.getD, hk, hk2] at hz
    have hne : a[i] ≠ b[i] := by
      intro e
      apply hz
      simp [e]
    simp [hi, hi2, eRow, hk, hk2, hz]
    exact h1 hne _
  · intro hz x
    have heq : a[i] = b[i] := by
      apply List.ext_getElem hl
      intro k h1 h2
      have := hz k h1
      simpa [List.getD, h1, h2] using this
    simp [hi, hi2, eRow]
    exact h0 heq _

theorem ref_same (a b : Trace) (ha : Lens a) (h : List PObj) : callL L 9 [eTrace a, eTrace b] h = some (.bool (decide (a = b)), h) := by
  refine callL_wp (hL 9 _ rfl) rfl ?_
  have hac := ha.cols
  have har := ha.rows
  by_cases h1 : a.cols.length = b.cols.length
  · have h1' : (a.cols.length : Int) = b.cols.length := by omega
    by_cases h2 : a.rows.length = b.rows.length
    · have h2' : (a.rows.length : Int) = b.rows.length := by omega
      generalize hE : decide (a = b) = E
      simp [f_ref43_Same, h1', h2']
      refine loop_upd a.cols.length (fun i => decide (a.cols.getD i default = b.cols.getD i default)) (fun i (x : PV) => [(5, .int .i64 i), (6, x)]) (fun _ _ => h) .dead ?_ ?_ ?_ rfl rfl
      · intro i hi hz x ih
        have hw := wrap_succ i (by omega)
        have hi2 : i < b.cols.length := by omega
        simp [List.getD, hi, hi2] at hz
        have e1 : a.cols[i].name = b.cols[i].name := by rw [hz]
        have e2 : a.cols[i].type = b.cols[i].type := by rw [hz]
        have e3 : a.cols[i].clock.length = b.cols[i].clock.length := by rw [hz]
        have e3' : (a.cols[i].clock.length : Int) = b.cols[i].clock.length := by omega
        simp [hi, hi2, e1, e2, e3']
        refine same_clock hL a.cols b.cols i hi hi2 e3 (ha.clock _ (List.getElem_mem hi)) _ _ _ _ _ _ _ _ ?_ (fun hne => absurd (by rw [hz]) hne)
        intro _ y
        simp [hw]
        simpa using ih _
      · intro i hi hz hk x
        have hi2 : i < b.cols.length := by omega
        simp [List.getD, hi, hi2] at hz
        have hne : E = false := by
          rw [← hE, decide_eq_false_iff_not]
          rintro rfl
          exact hz rfl
        subst hne
        by_cases e1 : a.cols[i].name = b.cols[i].name
        · by_cases e2 : a.cols[i].type = b.cols[i].type
          · by_cases e3 : a.cols[i].clock.length = b.cols[i].clock.length
            · have e3' : (a.cols[i].clock.length : Int) = b.cols[i].clock.length := by omega
              simp [hi, hi2, e1, e2, e3']
              refine same_clock hL a.cols b.cols i hi hi2 e3 (ha.clock _ (List.getElem_mem hi)) _ _ _ _ _ _ _ _ ?_ ?_
              · intro e4 y
                exfalso
                apply hz
                cases hx : a.cols[i]; cases hy : b.cols[i]
                rw [hx, hy] at e1 e2 e4
                simp_all
              · intro _ y
                simp
            · have e3' : ¬ (a.cols[i].clock.length : Int) = b.cols[i].clock.length := by omega
              simp [hi, hi2, e1, e2, e3']
          · simp [hi, hi2, e1, e2]
        · simp [hi, hi2, e1]
      · intro hz x
        have hcols : a.cols = b.cols := by
          apply List.ext_getElem h1
          intro k h3 h4
          have := hz k h3
          simpa [List.getD, h3, h4] using this
        simp
        refine loop_upd a.rows.length (fun i => decide (a.rows.getD i [] = b.rows.getD i [])) (fun i (x : PV) => [(7, .int .i64 i), (8, x)]) (fun _ _ => h) .dead ?_ ?_ ?_ rfl rfl
        · intro i hi hz x ih
          have hw := wrap_succ i (by omega)
          have hi2 : i < b.rows.length := by omega
          simp [List.getD, hi, hi2] at hz
          have e3 : a.rows[i].length = b.rows[i].length := by rw [hz]
          have e3' : (a.rows[i].length : Int) = b.rows[i].length := by omega
          simp [hi, hi2, eRow, e3']
          refine same_row hL a.rows b.rows i hi hi2 e3 (ha.row _ (List.getElem_mem hi)) _ _ _ _ _ _ _ _ ?_ (fun hne => absurd hz hne)
          intro _ y
          simp [hw]
          simpa using ih _
        · intro i hi hz hk x
          have hi2 : i < b.rows.length := by omega
          simp [List.getD, hi, hi2] at hz
          have hne : E = false := by
            rw [← hE, decide_eq_false_iff_not]
            rintro rfl
            exact hz rfl
          subst hne
          by_cases e3 : a.rows[i].length = b.rows[i].length
          · have e3' : (a.rows[i].length : Int) = b.rows[i].length := by omega
            simp [hi, hi2, eRow, e3']
            refine same_row hL a.rows b.rows i hi hi2 e3 (ha.row _ (List.getElem_mem hi)) _ _ _ _ _ _ _ _ (fun he => absurd he hz) ?_
            intro _ y
            simp
          · have e3' : ¬ (a.rows[i].length : Int) = b.rows[i].length := by omega
            simp [hi, hi2, eRow, e3']
        · intro hz x
          have hrows : a.rows = b.rows := by
            apply List.ext_getElem h2
            intro k h3 h4
            have := hz k h3
            simpa [List.getD, h3, h4] using this
          have hab : a = b := by cases a; cases b; simp_all
          have : E = true := by rw [← hE, decide_eq_true_eq]; exact hab
          subst this
          simp
    · have h2' : ¬ (a.rows.length : Int) = b.rows.length := by omega
      have hne : ¬ a = b := by rintro rfl; exact h2 rfl
      simp [f_ref43_Same, h1', h2', hne]
  · have h1' : ¬ (a.cols.length : Int) = b.cols.length := by omega
    have hne : ¬ a = b := by rintro rfl; exact h1 rfl
    simp [f_ref43_Same, h1', hne]
end
end PI.Tr
