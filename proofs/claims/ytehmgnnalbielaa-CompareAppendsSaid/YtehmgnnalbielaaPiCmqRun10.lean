/-
  The laws of compare: first differences, projections, appending.
-/
import Derived.Test.YtehmgnnalbielaaPiCmqRun9
set_option maxRecDepth 100000
set_option linter.unusedSimpArgs false
set_option linter.unusedVariables false
namespace PI.Cmp
open Go (IntKind BinOp UnOp)

theorem cellAt_differs (a : Trace) (r : Nat) (s : List UInt8) : differs a a r s = false := by simp [differs]
theorem rowDiff_self (a : Trace) (r : Nat) : rowDiff a a r = none := find_no (fun k hk => cellAt_differs a r _)
theorem first_self (a : Trace) : first a a = none := by
  unfold first
  split
  · rfl
  · rw [firstRow_none (fun k _ => rowDiff_self a k)]; simp
theorem isPrefix_self (a : Trace) : isPrefix a a = true := by simp [isPrefix]

theorem firsts (a b : Trace) (ha : Far a) (hb : Far b) (h : List PObj) : callL L 0 [eTrace a, eTrace b] h = some (.bool true, h) := by
  obtain ⟨u, hu, hua⟩ := huge a ha []
  obtain ⟨v, hv, hvb⟩ := huge b hb []
  have aw := awake []
  have s1 := pSame a b ha.ok hb.ok []
  have s2 := rSame a b ha.ok hb.ok []
  have s3 := pSame a a ha.ok ha.ok []
  cases u with
  | true =>
    refine callL_wp rfl rfl ?_
    simp [f_law44_CompareFirsts, hu, aw]
  | false =>
    have hac : a.cols.length ≤ 2147483647 := by have := (hua rfl).c; omega
    have c1 := pCommon a b hac hb.ok.c []
    have c2 := rCommon a b hac hb.ok.c []
    have hlen := common_len a b
    have hl : Len (common a b).length := by unfold Len; omega
    have sn := sameNames (common a b) (common a b) false false hl hl []
    obtain ⟨h1, e1⟩ := pFirst a b hac hb.ok.c ha.ok.r hb.ok.r ha.ok.rs hb.ok.rs []
    have e2 := rFirst a b hac hb.ok.c ha.ok.r hb.ok.r []
    obtain ⟨h3, e3⟩ := pFirst a a hac ha.ok.c ha.ok.r ha.ok.r ha.ok.rs ha.ok.rs []
    rw [first_self] at e3
    refine callL_wp rfl rfl ?_
    cases v with
    | true => simp [f_law44_CompareFirsts, hu, hv, aw]
    | false =>
      cases hf : first a b with
      | none =>
        rw [hf] at e1 e2
        simp only [eFirst] at e1 e2 e3
        simp [f_law44_CompareFirsts, hu, hv, aw, s1, s2, s3, c1, c2, sn, e1, e2, e3]
      | some q =>
        obtain ⟨r, s⟩ := q
        rw [hf] at e1 e2
        simp only [eFirst] at e1 e2 e3
        simp [f_law44_CompareFirsts, hu, hv, aw, s1, s2, s3, c1, c2, sn, e1, e2, e3]

theorem colAt_mem {t : Trace} {s : List UInt8} (h : known t s = true) : colAt t s ∈ t.cols := by
  obtain ⟨k, ek⟩ := Option.isSome_iff_exists.1 h
  obtain ⟨hk, _⟩ := idx_lt ek
  simp [colAt, ek, hk]

theorem project_ok (t : Trace) (names : List (List UInt8)) (ht : TraceOk t) (hl : Len names.length) : TraceOk (project t names).1 := by
  unfold project
  split
  · rename_i hk
    rw [List.all_eq_true] at hk
    refine ⟨by simpa [proj] using hl, by simpa [proj] using ht.r, ?_, ?_⟩
    · intro d hd
      simp [proj] at hd
      obtain ⟨s, hs, rfl⟩ := hd
      exact ht.cs _ (colAt_mem (hk s hs))
    · intro r hr
      simp [proj] at hr
      obtain ⟨q, hq, rfl⟩ := hr
      simpa [projRow] using hl
  · exact ⟨by simp [noTrace], by simp [noTrace], by simp [noTrace], by simp [noTrace]⟩

theorem projects (t : Trace) (names : List (List UInt8)) (o : Bool) (ht : Far t) (hn : names.length * 16 ≤ 140737488351232) (h : List PObj) : callL L 1 [eTrace t, .list o (names.map .str)] h = some (.bool true, h) := by
  obtain ⟨u, hu, hut⟩ := huge t ht []
  have aw := awake []
  cases u with
  | true =>
    refine callL_wp rfl rfl ?_
    simp [f_law44_CompareProjects, hu, aw]
  | false =>
    by_cases h1 : 100 < names.length
    · have h1' : (100 : Int) < names.length := by omega
      refine callL_wp rfl rfl ?_
      simp [f_law44_CompareProjects, hu, aw, h1, h1']
    · have h1' : ¬ (100 : Int) < names.length := by omega
      have hl2 : names.length ≤ 2147483647 := by omega
      have hrl : t.rows.length ≤ 2147483647 := by have := (hut rfl).r; omega
      have p1 := pProject t names false hl2 ht.ok.c ht.cs hrl ht.ok.rs []
      have p2 := rProject t names false hl2 ht.ok.c hrl []
      have ok := project_ok t names ht.ok (by unfold Len; omega)
      have s1 := rSame _ _ ok ok []
      simp only [eErr] at p1 p2
      refine callL_wp rfl rfl ?_
      simp [f_law44_CompareProjects, hu, aw, h1, h1', p1, p2, s1]

theorem append_ok (a b : Trace) (ha : TraceOk a) (hb : TraceOk b) : TraceOk (append a b).1 := by
  unfold append
  split
  · exact ⟨by simp [noTrace], by simp [noTrace], by simp [noTrace], by simp [noTrace]⟩
  · split
    · exact ⟨by simp [noTrace], by simp [noTrace], by simp [noTrace], by simp [noTrace]⟩
    · refine ⟨ha.c, by simp [Len]; omega, ha.cs, ?_⟩
      intro r hr
      simp at hr
      rcases hr with hr | hr
      · exact ha.rs r hr
      · exact hb.rs r hr

theorem append_facts (a b : Trace) (h : (append a b).2 = 0) : isPrefix a (append a b).1 = true ∧ (append a b).1.rows.length = a.rows.length + b.rows.length := by
  unfold append at h ⊢
  by_cases e : a.cols = b.cols
  · by_cases e2 : 4096 < a.rows.length + b.rows.length
    · simp [e, e2] at h
    · simp [e, e2, isPrefix]
  · simp [e] at h

theorem appends (a b : Trace) (ha : Far a) (hb : Far b) (h : List PObj) : callL L 2 [eTrace a, eTrace b] h = some (.bool true, h) := by
  obtain ⟨u, hu, hua⟩ := huge a ha []
  obtain ⟨v, hv, hvb⟩ := huge b hb []
  have aw := awake []
  cases u with
  | true =>
    refine callL_wp rfl rfl ?_
    simp [f_law44_CompareAppends, hu, aw]
  | false =>
    cases v with
    | true =>
      refine callL_wp rfl rfl ?_
      simp [f_law44_CompareAppends, hu, hv, aw]
    | false =>
      have sa := hua rfl
      have sb := hvb rfl
      have hab : a.rows.length + b.rows.length ≤ 9223372036854775807 := by have := sa.r; have := sb.r; omega
      have a1 := pAppend a b ha.ok hb.ok hab (by have := sa.c; omega) ha.cs (fun r hr => by have := sa.rs r hr; omega) (fun r hr => by have := sb.rs r hr; omega) []
      have a2 := rAppend a b ha.ok hb.ok hab []
      have ok := append_ok a b ha.ok hb.ok
      have s1 := rSame _ _ ok ok []
      have x1 := pPrefix a b ha.ok hb.ok []
      have x2 := rPrefix a b ha.ok hb.ok []
      have x3 := pPrefix a a ha.ok ha.ok []
      have x4 := pPrefix a (append a b).1 ha.ok ok []
      have hq := append_facts a b
      rw [isPrefix_self] at x3
      simp only [eErr] at a1 a2
      generalize append a b = q at a1 a2 ok s1 x4 hq
      obtain ⟨t, n⟩ := q
      have hw : IntKind.i64.wrap ((a.rows.length : Int) + b.rows.length) = ((a.rows.length + b.rows.length : Nat) : Int) := by
        rw [wrap_i64 _ (by omega) (by omega)]; omega
      refine callL_wp rfl rfl ?_
      by_cases hn : n = 0
      · obtain ⟨h1, h2⟩ := hq hn
        subst hn
        simp only at h1 h2
        rw [h1] at x4
        simp [f_law44_CompareAppends, hu, hv, aw, a1, a2, s1, x1, x2, x3, x4, hw, h2]
      · simp [f_law44_CompareAppends, hu, hv, aw, a1, a2, s1, x1, x2, x3, x4, hn]

end PI.Cmp
