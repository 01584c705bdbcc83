/-
  What the functions of compare come to: the table of columns, common names, first differences.
-/
import Derived.Test.YtehmgnnalbielaaPiCmqRun2
set_option maxRecDepth 100000
set_option linter.unusedSimpArgs false
set_option linter.unusedVariables false
namespace PI.Cmp
open Go (IntKind BinOp UnOp)

/-! ### The table of columns -/

theorem mfind_snoc (k : List UInt8) (k' : List UInt8) (v : PV) : ∀ (es : List (PV × PV)) (i : Nat), mfind false [.s] (.str k) (es ++ [(.str k', v)]) i = match mfind false [.s] (.str k) es i with
    | some none => some (if k = k' then some (i + es.length, v) else none)
    | r => r
  | [], i => by simp [mfind]; by_cases h : k = k' <;> simp [h]
  | e :: es, i => by
    simp only [List.cons_append, mfind]
    cases hp : peq false [.s] (.str k) e.1 with
    | none => rfl
    | some b =>
      cases b with
      | true => rfl
      | false =>
        simp only [Option.bind_some, Bool.false_eq_true, if_false]
        rw [mfind_snoc k k' v es (i + 1)]
        cases hm : mfind false [.s] (.str k) es (i + 1) with
        | none => rfl
        | some r =>
          cases r with
          | none => simp only [List.length_cons]; by_cases h : k = k' <;> simp [h]; omega
          | some q => rfl

def cmapN (cols : List Decl) : Nat → List (PV × PV)
  | 0 => []
  | i + 1 => match cols[i]? with
    | some c => if idx (cols.take i) c.name = none then cmapN cols i ++ [(.str c.name, .int .i64 i)] else cmapN cols i
    | none => cmapN cols i

theorem idx_snoc (l : List Decl) (c : Decl) (s : List UInt8) : idx (l ++ [c]) s = match idx l s with
    | some i => some i
    | none => if c.name = s then some l.length else none := by
  unfold idx
  rw [List.findIdx?_append]
  cases h : l.findIdx? (fun d => decide (d.name = s)) with
  | some i => simp
  | none => simp [List.findIdx?_cons]

theorem take_succ' {α : Type} {l : List α} {i : Nat} (h : i < l.length) : l.take (i + 1) = l.take i ++ [l[i]] := List.take_succ_eq_append_getElem h

/-- What a table says of a name. -/
theorem cmapN_find (cols : List Decl) (s : List UInt8) : ∀ i, i ≤ cols.length → ∃ r, mfind false [.s] (.str s) (cmapN cols i) 0 = some r ∧ r.map Prod.snd = (idx (cols.take i) s).map (fun n => .int .i64 (n : Nat))
  | 0, _ => ⟨none, rfl, by simp [idx]⟩
  | i + 1, h => by
    obtain ⟨r, h1, h2⟩ := cmapN_find cols s i (by omega)
    have hi : i < cols.length := by omega
    rw [take_succ' hi, idx_snoc]
    simp only [cmapN, List.getElem?_eq_getElem hi]
    by_cases hn : idx (cols.take i) cols[i].name = none
    · rw [if_pos hn, mfind_snoc, h1]
      cases r with
      | none =>
        have h3 : idx (cols.take i) s = none := by cases hq : idx (cols.take i) s <;> simp [hq] at h2 ⊢
        refine ⟨_, rfl, ?_⟩
        rw [h3]
        by_cases e : s = cols[i].name
        · subst e; simp [Nat.min_eq_left (Nat.le_of_lt hi)]
        · have e' : ¬ cols[i].name = s := fun x => e x.symm
          simp [e, e']
      | some q =>
        refine ⟨_, rfl, ?_⟩
        rw [h2]
        cases hq : idx (cols.take i) s with
        | none => rw [hq] at h2; simp at h2
        | some k => rfl
    · rw [if_neg hn]
      refine ⟨r, h1, ?_⟩
      rw [h2]
      cases hq : idx (cols.take i) s with
      | some k => rfl
      | none =>
        have : ¬ cols[i].name = s := fun e => hn (by rw [e]; exact hq)
        simp [this]

def cmap (cols : List Decl) : List (PV × PV) := cmapN cols cols.length
theorem cmap_find (cols : List Decl) (s : List UInt8) : ∃ r, mfind false [.s] (.str s) (cmap cols) 0 = some r ∧ r.map Prod.snd = (idx cols s).map (fun n => .int .i64 (n : Nat)) := by
  have := cmapN_find cols s cols.length (Nat.le_refl _)
  rw [List.take_length] at this
  exact this
theorem cmap_some {cols : List Decl} {s : List UInt8} {k : Nat} (h : idx cols s = some k) : ∃ p, mfind false [.s] (.str s) (cmap cols) 0 = some (some (p, .int .i64 (k : Nat))) := by
  obtain ⟨r, h1, h2⟩ := cmap_find cols s
  rw [h] at h2
  cases r with
  | none => simp at h2
  | some q => obtain ⟨p, v⟩ := q; simp at h2; subst h2; exact ⟨p, h1⟩
theorem cmap_none {cols : List Decl} {s : List UInt8} (h : idx cols s = none) : mfind false [.s] (.str s) (cmap cols) 0 = some none := by
  obtain ⟨r, h1, h2⟩ := cmap_find cols s
  rw [h] at h2
  cases r with
  | none => exact h1
  | some q => simp at h2

theorem columns (t : Trace) (hl : Len t.cols.length) (h : List PObj) : callL L 25 [eTrace t] h = some (.map (some h.length), h ++ [.map (cmap t.cols)]) := by
  refine callL_wp rfl rfl ?_
  simp [f_compare_columns]
  refine loop_fold t.cols.length (fun i (x : PV × PV × PV × Nat) => ⟨[eTrace t, .loc 0 [.list false (t.cols.map eDecl), .list false (t.rows.map eRow)], .map none, .map (some h.length), x.1, x.2.1, x.2.2.1, .list false (t.cols.map eDecl), .int .i64 t.cols.length, .int .i64 i], [], x.2.2.2, h ++ [.map (cmapN t.cols i)]⟩) ?_ ?_ (.dead, .dead, .dead, 1)
  · intro i hi x ih
    have hw := wrap_succ i (by unfold Len at hl; omega)
    obtain ⟨r, h1, h2⟩ := cmapN_find t.cols t.cols[i].name i (by omega)
    cases hq : idx (t.cols.take i) t.cols[i].name with
    | none =>
      rw [hq] at h2
      have hr : r = none := by cases r <;> simp at h2 ⊢
      subst hr
      have hc : cmapN t.cols (i + 1) = cmapN t.cols i ++ [(.str t.cols[i].name, .int .i64 i)] := by simp only [cmapN, List.getElem?_eq_getElem hi, hq, if_true]
      rw [hc] at ih
      simp [hi, h1, hw]
      exact ih (_, _, _, _)
    | some k =>
      rw [hq] at h2
      have hr : ∃ q, r = some q := by cases r <;> simp at h2 ⊢
      obtain ⟨⟨p, v⟩, rfl⟩ := hr
      simp at h2
      subst h2
      have hc : cmapN t.cols (i + 1) = cmapN t.cols i := by simp only [cmapN, List.getElem?_eq_getElem hi, hq]; simp
      rw [hc] at ih
      simp [hi, h1, hw]
      exact ih (_, _, _, _)
  · intro x
    simp [cmap]

/-! ### Common names -/

def commonN (a b : Trace) : Nat → List (List UInt8)
  | 0 => []
  | i + 1 => match a.cols[i]? with
    | some c => if (idx b.cols c.name).isSome = true ∧ ¬ c.name ∈ commonN a b i then commonN a b i ++ [c.name] else commonN a b i
    | none => commonN a b i
def common (a b : Trace) : List (List UInt8) := commonN a b a.cols.length
theorem commonN_len (a b : Trace) : ∀ i, (commonN a b i).length ≤ i
  | 0 => by simp [commonN]
  | i + 1 => by
    have := commonN_len a b i
    unfold commonN
    split
    · split
      · simp; omega
      · omega
    · omega
theorem commonN_mem (a b : Trace) : ∀ i, i ≤ a.cols.length → ∀ s, s ∈ commonN a b i ↔ (idx (a.cols.take i) s).isSome = true ∧ (idx b.cols s).isSome = true
  | 0, _, s => by simp [commonN, idx]
  | i + 1, h, s => by
    have hi : i < a.cols.length := by omega
    have ih := commonN_mem a b i (by omega)
    rw [take_succ' hi, idx_snoc]
    simp only [commonN, List.getElem?_eq_getElem hi]
    by_cases e : a.cols[i].name = s
    · subst e
      by_cases h1 : (idx b.cols a.cols[i].name).isSome = true
      · by_cases h2 : a.cols[i].name ∈ commonN a b i
        · simp only [h1, h2, not_true_eq_false, and_false, if_false]
          have := (ih _).1 h2
          simp only [h2, true_iff, and_true]
          cases hq : idx (a.cols.take i) a.cols[i].name with
          | none => simp
          | some k => simp
        · simp only [h1, h2, not_false_eq_true, and_self, if_true]
          simp
          cases hq : idx (a.cols.take i) a.cols[i].name with
          | none => simp
          | some k => simp
      · have : ¬ a.cols[i].name ∈ commonN a b i := fun hm => h1 ((ih _).1 hm).2
        simp [h1, this]
    · have e' : ∀ x, (x = s) = False ∨ True := fun _ => .inr trivial
      have hmem : (s ∈ (if (idx b.cols a.cols[i].name).isSome = true ∧ ¬ a.cols[i].name ∈ commonN a b i then commonN a b i ++ [a.cols[i].name] else commonN a b i)) ↔ s ∈ commonN a b i := by
        split
        · simp only [List.mem_append, List.mem_singleton]
          constructor
          · rintro (h | h)
            · exact h
            · exact absurd h.symm e
          · exact .inl
        · exact Iff.rfl
      rw [hmem, ih]
      cases hq : idx (a.cols.take i) s <;> simp [e]

theorem pCommon (a b : Trace) (ha : a.cols.length ≤ 2147483647) (hb : Len b.cols.length) (h : List PObj) : callL L 9 [eTrace a, eTrace b] h = some (.list false ((common a b).map .str), h ++ [.map (cmap b.cols)]) := by
  have hc := columns b hb h
  refine callL_wp rfl rfl ?_
  simp [f_compare_Common, hc]
  refine loop_fold a.cols.length (fun i (x : PV × PV × Nat) => ⟨[eTrace a, eTrace b, .loc 0 [.list false (a.cols.map eDecl), .list false (a.rows.map eRow)], .loc 1 [.list false (b.cols.map eDecl), .list false (b.rows.map eRow)], .list true [], .map (some h.length), .list true ((commonN a b i).map .str), x.1, x.2.1, .list false (a.cols.map eDecl), .int .i64 a.cols.length, .int .i64 i], [], x.2.2, h ++ [.map (cmap b.cols)]⟩) ?_ ?_ (.dead, .dead, 2)
  · intro i hi x ih
    have hw := wrap_succ i (by omega)
    have hlen := commonN_len a b i
    have hct := contains (commonN a b i) a.cols[i].name false (by unfold Len; omega) []
    have hl2 : (commonN a b i).length + 1 ≤ 2147483648 := by omega
    cases hq : idx b.cols a.cols[i].name with
    | none =>
      have h1 := cmap_none hq
      have hc : commonN a b (i + 1) = commonN a b i := by simp [commonN, List.getElem?_eq_getElem hi, hq]
      rw [hc] at ih
      simp [hi, h1, hw]
      exact ih (_, _, _)
    | some k =>
      obtain ⟨p, h1⟩ := cmap_some hq
      by_cases hm : a.cols[i].name ∈ commonN a b i
      · have hc : commonN a b (i + 1) = commonN a b i := by simp [commonN, List.getElem?_eq_getElem hi, hq, hm]
        rw [hc] at ih
        simp [hi, h1, hw, hct, hm]
        exact ih (_, _, _)
      · have hc : commonN a b (i + 1) = commonN a b i ++ [a.cols[i].name] := by simp [commonN, List.getElem?_eq_getElem hi, hq, hm]
        rw [hc] at ih
        simp [hi, h1, hw, hct, hm, hl2]
        simp at ih
        exact ih _ _ _
  · intro x
    simp [common]

theorem rCommon (a b : Trace) (ha : a.cols.length ≤ 2147483647) (hb : Len b.cols.length) (h : List PObj) : callL L 10 [eTrace a, eTrace b] h = some (.list false ((common a b).map .str), h) := by
  refine callL_wp rfl rfl ?_
  simp [f_ref44_Common]
  refine loop_fold a.cols.length (fun i (x : PV) => ⟨[eTrace a, eTrace b, .loc 0 [.list false (a.cols.map eDecl), .list false (a.rows.map eRow)], .loc 1 [.list false (b.cols.map eDecl), .list false (b.rows.map eRow)], .list true [], .list true ((commonN a b i).map .str), .int .i64 i, x], [], 2, h⟩) ?_ ?_ .dead
  · intro i hi x ih
    have hw := wrap_succ i (by omega)
    have hlen := commonN_len a b i
    have hct := has (commonN a b i) a.cols[i].name false (by unfold Len; omega) []
    have hcol := column b a.cols[i].name hb []
    have hl2 : (commonN a b i).length + 1 ≤ 2147483648 := by omega
    cases hq : idx b.cols a.cols[i].name with
    | none =>
      rw [hq] at hcol
      have hc : commonN a b (i + 1) = commonN a b i := by simp [commonN, List.getElem?_eq_getElem hi, hq]
      rw [hc] at ih
      simp [hi, hcol, idxI, hw]
      exact ih _
    | some k =>
      rw [hq] at hcol
      have hk0 : (0 : Int) ≤ k := by omega
      by_cases hm : a.cols[i].name ∈ commonN a b i
      · have hc : commonN a b (i + 1) = commonN a b i := by simp [commonN, List.getElem?_eq_getElem hi, hq, hm]
        rw [hc] at ih
        simp [hi, hcol, idxI, hw, hct, hm]
        exact ih _
      · have hc : commonN a b (i + 1) = commonN a b i ++ [a.cols[i].name] := by simp [commonN, List.getElem?_eq_getElem hi, hq, hm]
        rw [hc] at ih
        simp [hi, hcol, idxI, hw, hct, hm, hl2]
        simp at ih
        exact ih _
  · intro x
    simp [common]

end PI.Cmp
