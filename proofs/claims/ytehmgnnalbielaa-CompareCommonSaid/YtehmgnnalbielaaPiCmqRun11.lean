/-
  The laws of compare: first differences are those of the projections.
-/
import Derived.Test.YtehmgnnalbielaaPiCmqRun10
set_option maxRecDepth 100000
set_option linter.unusedSimpArgs false
set_option linter.unusedVariables false
namespace PI.Cmp
open Go (IntKind BinOp UnOp)

theorem rowDiff_cases (a b : Trace) : ∀ n, (∀ k, k < n → rowDiff a b k = none) ∨ ∃ r s, r < n ∧ rowDiff a b r = some s ∧ ∀ k, k < r → rowDiff a b k = none
  | 0 => .inl (fun k h => absurd h (Nat.not_lt_zero k))
  | n + 1 => by
    rcases rowDiff_cases a b n with h | ⟨r, s, h1, h2, h3⟩
    · cases hd : rowDiff a b n with
      | none =>
        refine .inl fun k hk => ?_
        by_cases e : k = n
        · rw [e]; exact hd
        · exact h k (by omega)
      | some s => exact .inr ⟨n, s, by omega, hd, h⟩
    · exact .inr ⟨r, s, by omega, h2, h3⟩

theorem projRow_at (a : Trace) (l : List (List UInt8)) (r : Nat) (h : r < a.rows.length) : projRow a l a.rows[r] = l.map (cellAt a r) := by
  unfold projRow
  refine List.map_congr_left fun s _ => ?_
  simp [cellAt, List.getD_eq_getElem?_getD, h]

theorem row_eq (a b : Trace) (r : Nat) (h : rowDiff a b r = none) : (common a b).map (cellAt a r) = (common a b).map (cellAt b r) := by
  refine List.map_congr_left fun s hs => ?_
  unfold rowDiff at h
  rw [List.find?_eq_none] at h
  simpa [differs] using h s hs

/-- The rows up to one are alike. -/
theorem take_eq (a b : Trace) (n : Nat) (h1 : n ≤ a.rows.length) (h2 : n ≤ b.rows.length) (h : ∀ k, k < n → rowDiff a b k = none) :
    (proj a (common a b)).rows.take n = (proj b (common a b)).rows.take n := by
  refine List.ext_getElem (by simp [proj]; omega) fun k hk hk' => ?_
  have hk1 : k < n := by simp [proj] at hk; omega
  simp only [proj, List.getElem_take, List.getElem_map]
  rw [projRow_at a _ k (by omega), projRow_at b _ k (by omega)]
  exact row_eq a b k (h k hk1)

/-- What the first difference is. -/
theorem first_cases (a b : Trace) :
    (first a b = none ∧ (common a b = [] ∨ (proj a (common a b)).rows = (proj b (common a b)).rows)) ∨
    (∃ (r : Nat) (s : List UInt8) (k0 : Nat), first a b = some (r, s) ∧ r < a.rows.length ∧ r < b.rows.length ∧ (common a b)[k0]? = some s ∧ differs a b r s = true ∧ (∀ k x, k < k0 → (common a b)[k]? = some x → differs a b r x = false) ∧ (proj a (common a b)).rows.take r = (proj b (common a b)).rows.take r) ∨
    (∃ (s : List UInt8) (t : List (List UInt8)), first a b = some (min a.rows.length b.rows.length, s) ∧ common a b = s :: t ∧ (proj a (common a b)).rows.take (min a.rows.length b.rows.length) = (proj b (common a b)).rows.take (min a.rows.length b.rows.length)) := by
  cases hc : common a b with
  | nil => exact .inl ⟨by simp [first, hc], .inl rfl⟩
  | cons s0 t0 =>
    rw [← hc]
    rcases rowDiff_cases a b (min a.rows.length b.rows.length) with h | ⟨r, s, h1, h2, h3⟩
    · have hfr := firstRow_none h
      by_cases he : a.rows.length = b.rows.length
      · refine .inl ⟨by simp only [first, hc, hfr, if_pos he], .inr ?_⟩
        have := take_eq a b (min a.rows.length b.rows.length) (by omega) (by omega) h
        rwa [List.take_of_length_le (by simp [proj]; omega), List.take_of_length_le (by simp [proj]; omega)] at this
      · exact .inr (.inr ⟨s0, t0, by simp only [first, hc, hfr, if_neg he], hc, take_eq a b _ (by omega) (by omega) h⟩)
    · have hfr := firstRow_some h1 h2 h3
      have h2' := h2
      unfold rowDiff at h2'
      rw [List.find?_eq_some_iff_getElem] at h2'
      obtain ⟨hd, k0, hk0, e0, hb⟩ := h2'
      refine .inr (.inl ⟨r, s, k0, by simp only [first, hc, hfr], by omega, by omega, by rw [List.getElem?_eq_getElem hk0, e0], hd, ?_, take_eq a b r (by omega) (by omega) h3⟩)
      intro k x hk hx
      have hk' : k < (common a b).length := by omega
      rw [List.getElem?_eq_getElem hk'] at hx
      simp at hx; subst hx
      simpa using hb k hk

theorem commons (a b : Trace) (ha : Far a) (hb : Far b) (h : List PObj) : callL L 3 [eTrace a, eTrace b] h = some (.bool true, h) := by
  obtain ⟨u, hu, hua⟩ := huge a ha []
  obtain ⟨v, hv, hvb⟩ := huge b hb []
  have aw := awake []
  cases u with
  | true =>
    refine callL_wp rfl rfl ?_
    simp [f_law44_CompareCommon, hu, aw]
  | false =>
  cases v with
  | true =>
    refine callL_wp rfl rfl ?_
    simp [f_law44_CompareCommon, hu, hv, aw]
  | false =>
  have sa := hua rfl
  have sb := hvb rfl
  have hac : a.cols.length ≤ 2147483647 := by have := sa.c; omega
  have c1 := pCommon a b hac hb.ok.c []
  have hlen := common_len a b
  have hlc : (common a b).length ≤ 1048576 := by have := sa.c; omega
  have hl2 : (common a b).length ≤ 2147483647 := by omega
  have p1 := pProject a (common a b) false hl2 ha.ok.c ha.cs (by have := sa.r; omega) ha.ok.rs []
  have p2 := pProject b (common a b) false hl2 hb.ok.c hb.cs (by have := sb.r; omega) hb.ok.rs []
  have k1 : (common a b).all (known a) = true := by
    rw [List.all_eq_true]; intro s hs
    obtain ⟨⟨k, e⟩, _⟩ := common_idx hs
    simp [known, e]
  have k2 : (common a b).all (known b) = true := by
    rw [List.all_eq_true]; intro s hs
    obtain ⟨_, ⟨k, e⟩⟩ := common_idx hs
    simp [known, e]
  have okX := project_ok a (common a b) ha.ok (by unfold Len; omega)
  have okY := project_ok b (common a b) hb.ok (by unfold Len; omega)
  have q1 : project a (common a b) = (proj a (common a b), 0) := by rw [project, if_pos k1]
  have q2 : project b (common a b) = (proj b (common a b), 0) := by rw [project, if_pos k2]
  rw [q1] at p1 okX
  rw [q2] at p2 okY
  replace okX : TraceOk (proj a (common a b)) := okX
  replace okY : TraceOk (proj b (common a b)) := okY
  obtain ⟨h1, e1⟩ := pFirst a b hac hb.ok.c ha.ok.r hb.ok.r ha.ok.rs hb.ok.rs []
  simp only [eErr] at p1 p2
  have hX : (proj a (common a b)).rows.length = a.rows.length := by simp [proj]
  have hY : (proj b (common a b)).rows.length = b.rows.length := by simp [proj]
  have rX : ∀ r, r < a.rows.length → (proj a (common a b)).rows[r]? = some ((common a b).map (cellAt a r)) := by
    intro r hr
    simp only [proj, List.getElem?_map, List.getElem?_eq_getElem hr, Option.map_some, projRow_at a _ r hr]
  have rY : ∀ r, r < b.rows.length → (proj b (common a b)).rows[r]? = some ((common a b).map (cellAt b r)) := by
    intro r hr
    simp only [proj, List.getElem?_map, List.getElem?_eq_getElem hr, Option.map_some, projRow_at b _ r hr]
  have hfc := first_cases a b
  generalize proj a (common a b) = X at p1 hX rX hfc okX
  generalize proj b (common a b) = Y at p2 hY rY hfc okY
  have tb : ∀ n, X.rows.take n = Y.rows.take n → callL L 19 [.list false ((X.rows.map eRow).take n), .list false ((Y.rows.map eRow).take n)] [] = some (.bool true, []) := by
    intro n hn
    have := tables (X.rows.take n) (Y.rows.take n) false false (by have := okX.r; unfold Len at *; simp; omega) (by have := okY.r; unfold Len at *; simp; omega) (fun r hr => okX.rs r (List.mem_of_mem_take hr)) (fun r hr => okY.rs r (List.mem_of_mem_take hr)) []
    rw [List.map_take, List.map_take] at this
    rw [this, decide_eq_true hn]
  refine callL_wp rfl rfl ?_
  rcases hfc with ⟨f1, f2⟩ | ⟨r, s, k0, f1, r1, r2, s1, d1, d2, t1⟩ | ⟨s, t, f1, c2, t1⟩
  · rw [f1] at e1
    simp only [eFirst] at e1
    by_cases hn : common a b = []
    · rw [hn] at c1 p1 p2
      simp at c1 p1 p2
      simp [f_law44_CompareCommon, hu, hv, aw, c1, p1, p2, e1, hX, hY]
    · have hr : X.rows = Y.rows := f2.resolve_left hn
      have tt := tb X.rows.length (by rw [hr])
      have hn' : ¬ (common a b).length = 0 := by simpa using hn
      rw [List.take_of_length_le (by simp), List.take_of_length_le (by simp [hr])] at tt
      simp [f_law44_CompareCommon, hu, hv, aw, c1, p1, p2, e1, hX, hY, tt, hn]
  · rw [f1] at e1
    simp only [eFirst] at e1
    have x1 := rX r r1
    have y1 := rY r r2
    have tt := tb r t1
    have hm : (if b.rows.length < a.rows.length then (b.rows.length : Int) else (a.rows.length : Int)) = ((min a.rows.length b.rows.length : Nat) : Int) := by
      split <;> omega
    have hrm : (r : Int) < ((min a.rows.length b.rows.length : Nat) : Int) := by omega
    generalize ((min a.rows.length b.rows.length : Nat) : Int) = m at hm hrm
    simp [f_law44_CompareCommon, hu, hv, aw, c1, p1, p2, e1, hX, hY, x1, y1, eRow, hm, hrm]
    obtain ⟨hk0, sk⟩ := List.getElem?_eq_some_iff.1 s1
    have cd : ¬ cellAt a r s = cellAt b r s := by simpa [differs] using d1
    have hra : (r : Int) ≤ a.rows.length := by omega
    have hrb : (r : Int) ≤ b.rows.length := by omega
    have hra' : r ≤ a.rows.length := by omega
    have hrb' : r ≤ b.rows.length := by omega
    refine loop_all (k0 + 1) (fun i => decide (i < k0)) (fun i (x : Unit) => ⟨[eTrace a, eTrace b, .loc 0 [.list false (a.cols.map eDecl), .list false (a.rows.map eRow)], .loc 1 [.list false (b.cols.map eDecl), .list false (b.rows.map eRow)], .bool false, eNames (common a b), .loc 2 [.list false (X.cols.map eDecl), .list false (X.rows.map eRow)], .int .i64 0, .loc 3 [.list false (Y.cols.map eDecl), .list false (Y.rows.map eRow)], .int .i64 0, .int .i64 r, .str s, .bool true, .int .i64 m, .int .i64 i], [], 4, h⟩) ?_ ?_ ?_ ()
    · intro i hi hok x ih
      have hik : i < k0 := of_decide_eq_true hok
      have hil : i < (common a b).length := by omega
      have hw := wrap_succ i (by omega)
      have hd := d2 i _ hik (List.getElem?_eq_getElem hil)
      have ce : cellAt a r (common a b)[i] = cellAt b r (common a b)[i] := by simpa [differs] using hd
      have hne : ¬ (common a b)[i] = s := by
        intro e; rw [e] at ce; exact cd ce
      simp [hil, x1, y1, eRow, ce, hne, hw]
      exact ih ()
    · intro i hi hok hk x
      have hik : i = k0 := by have : ¬ i < k0 := of_decide_eq_false hok; omega
      subst hik
      simp [hk0, sk, x1, y1, eRow, cd, hra, hrb, hra', hrb', hX, hY, tt, aw]
    · intro hok x
      have := hok k0 (by omega)
      simp at this
  · rw [f1] at e1
    simp only [eFirst] at e1
    have tt := tb _ t1
    have hm : (if b.rows.length < a.rows.length then (b.rows.length : Int) else (a.rows.length : Int)) = ((min a.rows.length b.rows.length : Nat) : Int) := by
      split <;> omega
    have hma : min a.rows.length b.rows.length ≤ a.rows.length := by omega
    have hmb : min a.rows.length b.rows.length ≤ b.rows.length := by omega
    generalize min a.rows.length b.rows.length = m at hm hma hmb tt e1
    have hma' : (m : Int) ≤ a.rows.length := by omega
    have hmb' : (m : Int) ≤ b.rows.length := by omega
    rw [c2] at c1 p1 p2
    simp at c1 p1 p2
    simp [f_law44_CompareCommon, hu, hv, aw, c1, p1, p2, e1, hX, hY, hm, hma, hmb, hma', hmb', tt]

end PI.Cmp
