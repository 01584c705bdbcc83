/-
  What the functions of compare come to: first differences.
-/
import Derived.Test.YtehmgnnalbielaaPiCmqRun3
set_option maxRecDepth 100000
set_option linter.unusedSimpArgs false
set_option linter.unusedVariables false
namespace PI.Cmp
open Go (IntKind BinOp UnOp)

def cellAt (t : Trace) (r : Nat) (s : List UInt8) : Cell := (t.rows.getD r []).getD ((idx t.cols s).getD 0) zeroCell
/-- Is there a difference in a row and column? -/
def differs (a b : Trace) (r : Nat) (s : List UInt8) : Bool := decide (¬ cellAt a r s = cellAt b r s)
def rowDiff (a b : Trace) (r : Nat) : Option (List UInt8) := (common a b).find? (differs a b r)
def firstRow (a b : Trace) (n : Nat) : Option (Nat × List UInt8) := (List.range n).findSome? (fun r => (rowDiff a b r).map fun s => (r, s))
def first (a b : Trace) : Option (Nat × List UInt8) :=
  match common a b with
  | [] => none
  | s :: _ => match firstRow a b (min a.rows.length b.rows.length) with
    | some x => some x
    | none => if a.rows.length = b.rows.length then none else some (min a.rows.length b.rows.length, s)

theorem find_at {α : Type} {l : List α} {p : α → Bool} {i : Nat} (hi : i < l.length) (h : p l[i] = true) (hk : ∀ k (hk : k < i), p (l[k]'(by omega)) = false) : l.find? p = some l[i] := by
  rw [List.find?_eq_some_iff_getElem]
  exact ⟨h, i, hi, rfl, fun j hj => by simpa using hk j hj⟩
theorem find_no {α : Type} {l : List α} {p : α → Bool} (hk : ∀ k (hk : k < l.length), p l[k] = false) : l.find? p = none := by
  rw [List.find?_eq_none]
  intro x hx
  obtain ⟨k, hk', rfl⟩ := List.mem_iff_getElem.1 hx
  simpa using hk k hk'
theorem firstRow_some {a b : Trace} {n r : Nat} {s : List UInt8} (hr : r < n) (h : rowDiff a b r = some s) (hk : ∀ k, k < r → rowDiff a b k = none) : firstRow a b n = some (r, s) := by
  unfold firstRow
  have : ∀ m, (∀ k, k < m → rowDiff a b k = none) → (List.range m).findSome? (fun r => (rowDiff a b r).map fun s => (r, s)) = none := by
    intro m hm
    rw [List.findSome?_eq_none_iff]
    intro x hx
    rw [hm x (by simpa using hx)]; rfl
  have e : List.range n = List.range r ++ List.range' r (n - r) := by
    rw [List.range_eq_range', List.range_eq_range', show n = r + (n - r) by omega, ← List.range'_append_1]; simp
  rw [e, List.findSome?_append, this r hk]
  obtain ⟨m, hm⟩ : ∃ m, n - r = m + 1 := ⟨n - r - 1, by omega⟩
  rw [hm, List.range'_succ]
  simp [h]
theorem firstRow_none {a b : Trace} {n : Nat} (hk : ∀ k, k < n → rowDiff a b k = none) : firstRow a b n = none := by
  unfold firstRow
  rw [List.findSome?_eq_none_iff]
  intro x hx
  rw [hk x (by simpa using hx)]; rfl

theorem common_idx {a b : Trace} {s : List UInt8} (h : s ∈ common a b) : (∃ k, idx a.cols s = some k) ∧ ∃ k, idx b.cols s = some k := by
  have := (commonN_mem a b a.cols.length (Nat.le_refl _) s).1 h
  rw [List.take_length] at this
  exact ⟨Option.isSome_iff_exists.1 this.1, Option.isSome_iff_exists.1 this.2⟩

abbrev eNames (l : List (List UInt8)) : PV := .list false (l.map .str)

theorem pFirst_row (a b : Trace) (r n : Nat) (hr : r < a.rows.length) (hr' : r < b.rows.length) (hl : Len (common a b).length) (ra : ∀ r ∈ a.rows, Len r.length) (rb : ∀ r ∈ b.rows, Len r.length) (h : List PObj) {Q : PExit → St → Prop} (x : PV)
    (h1 : rowDiff a b r = none → ∀ x, Q (.exit 2) ⟨[eTrace a, eTrace b, .loc 0 [.list false (a.cols.map eDecl), .list false (a.rows.map eRow)], .loc 1 [.list false (b.cols.map eDecl), .list false (b.rows.map eRow)], .int .i64 0, .str [], .bool false, eNames (common a b), .map (some h.length), .map (some (h.length + 1)),
      .int .i64 n, .int .i64 r, x, .int .i64 n, .int .i64 r, eNames (common a b), .int .i64 (common a b).length, .int .i64 (common a b).length], [], 2, h ++ [.map (cmap a.cols), .map (cmap b.cols)]⟩)
    (h2 : ∀ s, rowDiff a b r = some s → ∀ x i, Q .ret ⟨[eTrace a, eTrace b, .loc 0 [.list false (a.cols.map eDecl), .list false (a.rows.map eRow)], .loc 1 [.list false (b.cols.map eDecl), .list false (b.rows.map eRow)], .int .i64 r, .str s, .bool true, eNames (common a b), .map (some h.length), .map (some (h.length + 1)),
      .int .i64 n, .int .i64 r, x, .int .i64 n, .int .i64 r, eNames (common a b), .int .i64 (common a b).length, i], [], 2, h ++ [.map (cmap a.cols), .map (cmap b.cols)]⟩) :
    wpL L f_compare_First_l0 ⟨[eTrace a, eTrace b, .loc 0 [.list false (a.cols.map eDecl), .list false (a.rows.map eRow)], .loc 1 [.list false (b.cols.map eDecl), .list false (b.rows.map eRow)], .int .i64 0, .str [], .bool false, eNames (common a b), .map (some h.length), .map (some (h.length + 1)),
      .int .i64 n, .int .i64 r, x, .int .i64 n, .int .i64 r, eNames (common a b), .int .i64 (common a b).length, .int .i64 0], [], 2, h ++ [.map (cmap a.cols), .map (cmap b.cols)]⟩ Q := by
  rw [f_compare_First_l0]
  refine loop_all (common a b).length (fun i => match (common a b)[i]? with | some s => !differs a b r s | none => true) (fun i (x : PV) => ⟨[eTrace a, eTrace b, .loc 0 [.list false (a.cols.map eDecl), .list false (a.rows.map eRow)], .loc 1 [.list false (b.cols.map eDecl), .list false (b.rows.map eRow)], .int .i64 0, .str [], .bool false, eNames (common a b), .map (some h.length), .map (some (h.length + 1)),
      .int .i64 n, .int .i64 r, x, .int .i64 n, .int .i64 r, eNames (common a b), .int .i64 (common a b).length, .int .i64 i], [], 2, h ++ [.map (cmap a.cols), .map (cmap b.cols)]⟩) ?_ ?_ ?_ x
  · intro i hi hok x ih
    have hw := wrap_succ i (by unfold Len at hl; omega)
    obtain ⟨⟨ka, ea⟩, ⟨kb, eb⟩⟩ := common_idx (List.getElem_mem hi)
    obtain ⟨pa, fa⟩ := cmap_some ea
    obtain ⟨pb, fb⟩ := cmap_some eb
    have ca := cell a.rows[r] ka false (ra _ (List.getElem_mem hr)) []
    have cb := cell b.rows[r] kb false (rb _ (List.getElem_mem hr')) []
    simp only [List.getElem?_eq_getElem hi, Bool.not_eq_true'] at hok
    have hd : (a.rows[r]).getD ka zeroCell = (b.rows[r]).getD kb zeroCell := by
      simpa [differs, cellAt, ea, eb, List.getD_eq_getElem?_getD, hr, hr'] using hok
    rw [hd] at ca
    simp [hi, hr, hr', eRow, fa, fb, ca, cb, hw]
    simp at ih
    exact ih _
  · intro i hi hok hk x
    obtain ⟨⟨ka, ea⟩, ⟨kb, eb⟩⟩ := common_idx (List.getElem_mem hi)
    obtain ⟨pa, fa⟩ := cmap_some ea
    obtain ⟨pb, fb⟩ := cmap_some eb
    have ca := cell a.rows[r] ka false (ra _ (List.getElem_mem hr)) []
    have cb := cell b.rows[r] kb false (rb _ (List.getElem_mem hr')) []
    simp only [List.getElem?_eq_getElem hi, Bool.not_eq_false'] at hok
    have hd : ¬ (a.rows[r]).getD ka zeroCell = (b.rows[r]).getD kb zeroCell := by
      simpa [differs, cellAt, ea, eb, List.getD_eq_getElem?_getD, hr, hr'] using hok
    rw [List.getD_eq_getElem?_getD, List.getD_eq_getElem?_getD] at hd
    have hrd : rowDiff a b r = some (common a b)[i] := find_at hi hok (fun k hk' => by
      have hk2 : k < (common a b).length := by omega
      have := hk k hk'
      simpa [hk2] using this)
    have h2' := h2 _ hrd
    simp [hi, hr, hr', eRow, fa, fb, ca, cb, hd]
    exact h2' _ _
  · intro hok x
    have hrd : rowDiff a b r = none := find_no (fun k hk => by have := hok k hk; simpa [hk] using this)
    have h1' := h1 hrd
    simp
    exact h1' _

theorem common_len (a b : Trace) : (common a b).length ≤ a.cols.length := commonN_len a b a.cols.length

/-- What First gives. -/
def eFirst : Option (Nat × List UInt8) → PV
  | some (r, s) => .tuple [.int .i64 r, .str s, .bool true]
  | none => .tuple [.int .i64 0, .str [], .bool false]

theorem pFirst (a b : Trace) (ha : a.cols.length ≤ 2147483647) (hb : Len b.cols.length) (la : Len a.rows.length) (lb : Len b.rows.length) (ra : ∀ r ∈ a.rows, Len r.length) (rb : ∀ r ∈ b.rows, Len r.length) (h : List PObj) :
    ∃ h', callL L 11 [eTrace a, eTrace b] h = some (eFirst (first a b), h') := by
  have hcom := pCommon a b ha hb []
  have hlen := common_len a b
  have hl : Len (common a b).length := by unfold Len; omega
  cases hc : common a b with
  | nil =>
    rw [hc] at hcom
    refine ⟨h, callL_wp rfl rfl ?_⟩
    simp [f_compare_First, hcom, first, hc, eFirst]
  | cons s0 rest =>
    have hca := columns a (by unfold Len; omega) h
    have hcb := columns b hb (h ++ [.map (cmap a.cols)])
    have hne : ¬ ((common a b).length : Int) = 0 := by rw [hc]; simp; omega
    refine ⟨h ++ [.map (cmap a.cols), .map (cmap b.cols)], callL_wp rfl rfl ?_⟩
    have hmin : min a.rows.length b.rows.length ≤ 9223372036854775807 := by unfold Len at la; omega
    have hm : (if b.rows.length < a.rows.length then (b.rows.length : Int) else (a.rows.length : Int)) = ((min a.rows.length b.rows.length : Nat) : Int) := by
      split <;> omega
    have hnil : ¬ common a b = [] := by rw [hc]; simp
    have hhead : ∀ h0 : 0 < (common a b).length, (common a b)[0] = s0 := by rw [hc]; intro _; rfl
    have hpos : 0 < (common a b).length := by rw [hc]; simp
    generalize hn : min a.rows.length b.rows.length = n at hmin hm
    simp only [List.length_append, List.length_singleton] at hcb
    simp [f_compare_First, hcom, hne, hca, hcb, hm, hnil]
    refine loop_all n (fun r => (rowDiff a b r).isNone) (fun r (x : PV × PV × PV × PV × PV) => ⟨[eTrace a, eTrace b, .loc 0 [.list false (a.cols.map eDecl), .list false (a.rows.map eRow)], .loc 1 [.list false (b.cols.map eDecl), .list false (b.rows.map eRow)], .int .i64 0, .str [], .bool false, eNames (common a b), .map (some h.length), .map (some (h.length + 1)),
      .int .i64 n, x.1, x.2.1, .int .i64 n, .int .i64 r, x.2.2.1, x.2.2.2.1, x.2.2.2.2], [], 2, h ++ [.map (cmap a.cols), .map (cmap b.cols)]⟩) ?_ ?_ ?_ (.dead, .dead, .dead, .dead, .dead)
    · intro r hr hok x ih
      have hw := wrap_succ r (by omega)
      simp [hr]
      refine pFirst_row a b r n (by omega) (by omega) hl ra rb h _ ?_ ?_
      · intro _ y
        simp [hw]
        exact ih (_, _, _, _, _)
      · intro s hs
        rw [hs] at hok
        simp at hok
    · intro r hr hok hk x
      simp [hr]
      refine pFirst_row a b r n (by omega) (by omega) hl ra rb h _ ?_ ?_
      · intro hs
        rw [hs] at hok
        simp at hok
      · intro s hs y i
        have hf : first a b = some (r, s) := by
          have := firstRow_some (n := min a.rows.length b.rows.length) (by omega) hs (fun k hk' => by have := hk k hk'; simpa using this)
          simp only [first, hc, this]
        simp [hf, eFirst]
    · intro hok x
      have hfr : firstRow a b n = none := firstRow_none (fun k hk => by have := hok k (by omega); simpa using this)
      by_cases hlen2 : a.rows.length = b.rows.length
      · have hf : first a b = none := by simp only [first, hc, hn, hfr, if_pos hlen2]
        simp [hlen2, hf, eFirst]
      · have hf : first a b = some (n, s0) := by simp only [first, hc, hn, hfr, if_neg hlen2]
        have hlen3 : ¬ (a.rows.length : Int) = b.rows.length := by omega
        simp [hlen3, hf, eFirst, hpos, hhead]

/-! ### The reference -/

theorem rFirst_row (a b : Trace) (r : Nat) (hr : r < a.rows.length) (hr' : r < b.rows.length) (hl : Len (common a b).length) (ca : Len a.cols.length) (cb : Len b.cols.length) (h : List PObj) {Q : PExit → St → Prop}
    (h1 : rowDiff a b r = none → Q (.exit 2) ⟨[eTrace a, eTrace b, .loc 0 [.list false (a.cols.map eDecl), .list false (a.rows.map eRow)], .loc 1 [.list false (b.cols.map eDecl), .list false (b.rows.map eRow)], .int .i64 0, .str [], .bool false, eNames (common a b), .int .i64 r, .int .i64 (common a b).length], [], 2, h⟩)
    (h2 : ∀ s, rowDiff a b r = some s → ∀ i, Q .ret ⟨[eTrace a, eTrace b, .loc 0 [.list false (a.cols.map eDecl), .list false (a.rows.map eRow)], .loc 1 [.list false (b.cols.map eDecl), .list false (b.rows.map eRow)], .int .i64 r, .str s, .bool true, eNames (common a b), .int .i64 r, i], [], 2, h⟩) :
    wpL L f_ref44_First_l0 ⟨[eTrace a, eTrace b, .loc 0 [.list false (a.cols.map eDecl), .list false (a.rows.map eRow)], .loc 1 [.list false (b.cols.map eDecl), .list false (b.rows.map eRow)], .int .i64 0, .str [], .bool false, eNames (common a b), .int .i64 r, .int .i64 0], [], 2, h⟩ Q := by
  have g1 : ¬ a.rows.length ≤ r := by omega
  have g2 : ¬ b.rows.length ≤ r := by omega
  rw [f_ref44_First_l0]
  refine loop_all (common a b).length (fun i => match (common a b)[i]? with | some s => !differs a b r s | none => true) (fun i (x : Unit) => ⟨[eTrace a, eTrace b, .loc 0 [.list false (a.cols.map eDecl), .list false (a.rows.map eRow)], .loc 1 [.list false (b.cols.map eDecl), .list false (b.rows.map eRow)], .int .i64 0, .str [], .bool false, eNames (common a b), .int .i64 r, .int .i64 i], [], 2, h⟩) ?_ ?_ ?_ ()
  · intro i hi hok x ih
    have hw := wrap_succ i (by unfold Len at hl; omega)
    obtain ⟨⟨ka, ea⟩, ⟨kb, eb⟩⟩ := common_idx (List.getElem_mem hi)
    have ca := refCell a r (common a b)[i] ka hr ea ca []
    have cb := refCell b r (common a b)[i] kb hr' eb cb []
    simp only [List.getElem?_eq_getElem hi, Bool.not_eq_true'] at hok
    have hd : (a.rows[r]).getD ka zeroCell = (b.rows[r]).getD kb zeroCell := by
      simpa [differs, cellAt, ea, eb, List.getD_eq_getElem?_getD, hr, hr'] using hok
    rw [hd] at ca
    simp [hi, hr, hr', g1, g2, eRow, ca, cb, hw]
    exact ih ()
  · intro i hi hok hk x
    obtain ⟨⟨ka, ea⟩, ⟨kb, eb⟩⟩ := common_idx (List.getElem_mem hi)
    have ca := refCell a r (common a b)[i] ka hr ea ca []
    have cb := refCell b r (common a b)[i] kb hr' eb cb []
    simp only [List.getElem?_eq_getElem hi, Bool.not_eq_false'] at hok
    have hd : ¬ (a.rows[r]).getD ka zeroCell = (b.rows[r]).getD kb zeroCell := by
      simpa [differs, cellAt, ea, eb, List.getD_eq_getElem?_getD, hr, hr'] using hok
    rw [List.getD_eq_getElem?_getD, List.getD_eq_getElem?_getD] at hd
    have hrd : rowDiff a b r = some (common a b)[i] := find_at hi hok (fun k hk' => by
      have hk2 : k < (common a b).length := by omega
      have := hk k hk'
      simpa [hk2] using this)
    have h2' := h2 _ hrd
    simp [hi, hr, hr', g1, g2, eRow, ca, cb, hd]
    exact h2' _
  · intro hok x
    have hrd : rowDiff a b r = none := find_no (fun k hk => by have := hok k hk; simpa [hk] using this)
    simp
    exact h1 hrd

theorem rFirst (a b : Trace) (ha : a.cols.length ≤ 2147483647) (hb : Len b.cols.length) (la : Len a.rows.length) (lb : Len b.rows.length) (h : List PObj) :
    callL L 12 [eTrace a, eTrace b] h = some (eFirst (first a b), h) := by
  have hcom := rCommon a b ha hb []
  have hlen := common_len a b
  have hl : Len (common a b).length := by unfold Len; omega
  refine callL_wp rfl rfl ?_
  have hm : (if (b.rows.length : Int) > (a.rows.length : Int) then (b.rows.length : Int) else (a.rows.length : Int)) = ((max a.rows.length b.rows.length : Nat) : Int) := by
    split <;> omega
  have hm2 : (if a.rows.length < b.rows.length then (b.rows.length : Int) else (a.rows.length : Int)) = ((max a.rows.length b.rows.length : Nat) : Int) := by
    split <;> omega
  have hmax : max a.rows.length b.rows.length ≤ 9223372036854775807 := by unfold Len at la lb; omega
  simp [f_ref44_First, hcom]
  refine loop_all (max a.rows.length b.rows.length) (fun r => if r < min a.rows.length b.rows.length then (rowDiff a b r).isNone else decide (common a b = [])) (fun r (x : PV) => ⟨[eTrace a, eTrace b, .loc 0 [.list false (a.cols.map eDecl), .list false (a.rows.map eRow)], .loc 1 [.list false (b.cols.map eDecl), .list false (b.rows.map eRow)], .int .i64 0, .str [], .bool false, eNames (common a b), .int .i64 r, x], [], 2, h⟩) ?_ ?_ ?_ .dead
  · intro r hr hok x ih
    have hw := wrap_succ r (by omega)
    have hr2 : (r : Int) < ((max a.rows.length b.rows.length : Nat) : Int) := by omega
    simp [hm2, hr2]
    by_cases hrn : r < min a.rows.length b.rows.length
    · rw [if_pos hrn] at hok
      refine rFirst_row a b r (by omega) (by omega) hl (by unfold Len; omega) hb h ?_ ?_
      · intro _
        simp [hw]
        exact ih _
      · intro s hs
        rw [hs] at hok
        simp at hok
    · rw [if_neg hrn] at hok
      have hnil : common a b = [] := of_decide_eq_true hok
      rw [f_ref44_First_l0, wpL_loop]
      simp [hnil, hw]
      rw [hnil] at ih
      exact ih _
  · intro r hr hok hk x
    have hr2 : (r : Int) < ((max a.rows.length b.rows.length : Nat) : Int) := by omega
    simp [hm2, hr2]
    by_cases hrn : r < min a.rows.length b.rows.length
    · rw [if_pos hrn] at hok
      refine rFirst_row a b r (by omega) (by omega) hl (by unfold Len; omega) hb h ?_ ?_
      · intro hs
        rw [hs] at hok
        simp at hok
      · intro s hs i
        have hf : first a b = some (r, s) := by
          have := firstRow_some (n := min a.rows.length b.rows.length) hrn hs (fun k hk' => by have := hk k hk'; rw [if_pos (by omega)] at this; simpa using this)
          unfold first
          cases hc : common a b with
          | nil => rw [rowDiff, hc] at hs; simp at hs
          | cons s0 rest => simp only [this]
        simp [hf, eFirst]
    · rw [if_neg hrn] at hok
      cases hc : common a b with
      | nil => rw [hc] at hok; simp at hok
      | cons s0 rest =>
        have hre : r = min a.rows.length b.rows.length := by
          rcases Nat.lt_or_ge (min a.rows.length b.rows.length) r with hlt | hge
          · have := hk (min a.rows.length b.rows.length) hlt
            rw [if_neg (Nat.lt_irrefl _), hc] at this
            simp at this
          · omega
        have hfr : firstRow a b (min a.rows.length b.rows.length) = none := firstRow_none (fun k hk' => by have := hk k (by omega); rw [if_pos hk'] at this; simpa using this)
        have hne : ¬ a.rows.length = b.rows.length := by omega
        have hf : first a b = some (r, s0) := by simp only [first, hc, hfr, if_neg hne, hre]
        rw [f_ref44_First_l0, wpL_loop]
        by_cases h1 : a.rows.length ≤ r
        · have h1' : (a.rows.length : Int) ≤ r := by omega
          simp [hf, eFirst, h1, h1']
        · have h2 : b.rows.length ≤ r := by omega
          have h1' : ¬ (a.rows.length : Int) ≤ r := by omega
          have h2' : (b.rows.length : Int) ≤ r := by omega
          simp [hf, eFirst, h1, h1', h2, h2']
  · intro hok x
    have hr2 : ¬ ((max a.rows.length b.rows.length : Nat) : Int) < ((max a.rows.length b.rows.length : Nat) : Int) := by omega
    have hf : first a b = none := by
      unfold first
      cases hc : common a b with
      | nil => rfl
      | cons s0 rest =>
        have hfr : firstRow a b (min a.rows.length b.rows.length) = none := firstRow_none (fun k hk' => by have := hok k (by omega); rw [if_pos hk'] at this; simpa using this)
        have heq : a.rows.length = b.rows.length := by
          by_cases he : a.rows.length = b.rows.length
          · exact he
          · have := hok (min a.rows.length b.rows.length) (by omega)
            rw [if_neg (Nat.lt_irrefl _), hc] at this
            simp at this
        simp only [hfr, if_pos heq]
    simp [hm2, hf, eFirst]

end PI.Cmp
