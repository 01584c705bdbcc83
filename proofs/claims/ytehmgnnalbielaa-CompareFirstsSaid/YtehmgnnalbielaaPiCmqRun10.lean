/-
  The laws of compare: first differences, projections, appending.
-/
import Derived.Test.YtehmgnnalbielaaPiCmqRun9
set_option maxRecDepth 100000
set_option linter.unusedSimpArgs false
set_option linter.unusedVariables false
namespace PI.Cmp
open Go (IntKind BinOp UnOp)

structure Sm (t : Trace) : Prop where
  c : t.cols.length ≤ 1048576
  r : t.rows.length ≤ 1048576
  cs : ∀ d ∈ t.cols, d.clock.length ≤ 1048576
  rs : ∀ r ∈ t.rows, r.length ≤ 1048576

theorem Sm.ok {t : Trace} (h : Sm t) : TraceOk t :=
  ⟨by have := h.c; unfold Len; omega, by have := h.r; unfold Len; omega, fun d hd => by have := h.cs d hd; unfold Len; omega, fun r hr => by have := h.rs r hr; unfold Len; omega⟩

theorem cellAt_differs (a : Trace) (r : Nat) (s : List UInt8) : differs a a r s = false := by simp [differs]
theorem rowDiff_self (a : Trace) (r : Nat) : rowDiff a a r = none := find_no (fun k hk => cellAt_differs a r _)
theorem first_self (a : Trace) : first a a = none := by
  unfold first
  split
  · rfl
  · rw [firstRow_none (fun k _ => rowDiff_self a k)]; simp
theorem isPrefix_self (a : Trace) : isPrefix a a = true := by simp [isPrefix]

theorem firsts (a b : Trace) (ha : TraceOk a) (hb : TraceOk b) (h : List PObj) : callL L 0 [eTrace a, eTrace b] h = some (.bool true, h) := by
  obtain ⟨u, hu, hu200⟩ := huge a ha.c ha.r []
  obtain ⟨v, hv, hv200⟩ := huge b hb.c hb.r []
  have aw := awake []
  have s1 := pSame a b ha hb []
  have s2 := rSame a b ha hb []
  have s3 := pSame a a ha ha []
  cases u with
  | true =>
    refine callL_wp rfl rfl ?_
    simp [f_law44_CompareFirsts, hu, aw]
  | false =>
    have hac : a.cols.length ≤ 2147483647 := by have := hu200 rfl; omega
    have c1 := pCommon a b hac hb.c []
    have c2 := rCommon a b hac hb.c []
    have hlen := common_len a b
    have hl : Len (common a b).length := by unfold Len; omega
    have sn := sameNames (common a b) (common a b) false false hl hl []
    obtain ⟨h1, e1⟩ := pFirst a b hac hb.c ha.r hb.r ha.rs hb.rs []
    have e2 := rFirst a b hac hb.c ha.r hb.r []
    obtain ⟨h3, e3⟩ := pFirst a a hac ha.c ha.r ha.r ha.rs ha.rs []
    rw [first_self] at e3
    refine callL_wp rfl rfl ?_
    cases v with
    | true => simp [f_law44_CompareFirsts, hu, hv, aw]
    | false =>
      cases hf : first a b with
      | none =>
        rw [hf] at e1 e2
        simp only [eFirst] at e1 e2 e3
        simp [f_law44_CompareFirsts, hu, hv, aw, s1, s2, s3, c1, c2, sn, e1, e2, e3]
      | some q =>
        obtain ⟨r, s⟩ := q
        rw [hf] at e1 e2
        simp only [eFirst] at e1 e2 e3
        simp [f_law44_CompareFirsts, hu, hv, aw, s1, s2, s3, c1, c2, sn, e1, e2, e3]

end PI.Cmp
