/-
  What the functions of compare come to: appending.
-/
import Derived.Test.YtehmgnnalbielaaPiCmqRun4
set_option maxRecDepth 100000
set_option linter.unusedSimpArgs false
set_option linter.unusedVariables false
namespace PI.Cmp
open Go (IntKind BinOp UnOp)

def noTrace : Trace := ⟨[], []⟩
theorem no_trace : PV.agg [.list false [], .list false []] = eTrace noTrace := rfl
def append (a b : Trace) : Trace × Nat :=
  if ¬ a.cols = b.cols then (noTrace, 16) else if 4096 < a.rows.length + b.rows.length then (noTrace, 3) else (⟨a.cols, a.rows ++ b.rows⟩, 0)
def eErr (x : Trace × Nat) : PV := .tuple [eTrace x.1, .int .i64 x.2]

theorem rAppend (a b : Trace) (ha : TraceOk a) (hb : TraceOk b) (hab : a.rows.length + b.rows.length ≤ 9223372036854775807) (h : List PObj) : callL L 16 [eTrace a, eTrace b] h = some (eErr (append a b), h) := by
  have h1 := decls a.cols b.cols false false ha.c hb.c ha.cs hb.cs []
  have hw : IntKind.i64.wrap ((a.rows.length : Int) + b.rows.length) = ((a.rows.length + b.rows.length : Nat) : Int) := by
    have := ha.r; have := hb.r; unfold Len at *
    rw [wrap_i64 _ (by omega) (by omega)]; omega
  refine callL_wp rfl rfl ?_
  unfold append
  by_cases e : a.cols = b.cols
  · rw [e] at h1
    by_cases e2 : 4096 < a.rows.length + b.rows.length
    · have e3 : (4096 : Int) < ((a.rows.length + b.rows.length : Nat) : Int) := by omega
      have e3' : (4096 : Int) < (a.rows.length : Int) + b.rows.length := by omega
      simp [f_ref44_Append, h1, e, hw, e2, e3, e3', setParts, eErr, no_trace]
    · have e3 : ¬ (4096 : Int) < ((a.rows.length + b.rows.length : Nat) : Int) := by omega
      have e3' : ¬ (4096 : Int) < (a.rows.length : Int) + b.rows.length := by omega
      have e4 : a.rows.length ≤ 2147483648 := by omega
      have e5 : a.rows.length + b.rows.length ≤ 2147483648 := by omega
      simp [f_ref44_Append, h1, e, hw, e2, e3, e3', e4, e5, setParts, eErr, no_trace]
      simp [eTrace]
  · simp [f_ref44_Append, h1, e, setParts, eErr, no_trace]

theorem map_snoc {α β : Type} (f : α → β) (l : List α) (i : Nat) (h : i < l.length) : (l.map f).take (i + 1) = (l.map f).take i ++ [f l[i]] := by
  rw [List.take_succ_eq_append_getElem (by simpa using h)]; simp

theorem eTrace_mk (c : List Decl) (r : List Row) : PV.agg [.list false (c.map eDecl), .list false (r.map eRow)] = eTrace ⟨c, r⟩ := rfl
theorem eTrace_mk1 (c : List Decl) (r : List Row) (d : Decl) (l : List PV) (hd : l = r.map eRow) (k : List PV) (hk : k = c.map eDecl) : PV.agg [.list false k, .list false l] = eTrace ⟨c, r⟩ := by subst hd hk; rfl

@[simp] theorem cells_agg (cs : List PV) : (PV.agg cs).cells = cs := rfl

theorem head_all {s : Nat} {l : List PV} (h : ∀ x ∈ l, x.cells.length = s) : headOk s l = true := by
  cases l with
  | nil => rfl
  | cons x l => simp [h x (by simp)]
@[simp] theorem head_take (s n : Nat) (l : List PV) (h : headOk s l = true) : headOk s (l.take n) = true := by
  cases n with
  | zero => rfl
  | succ n => cases l <;> simp_all
@[simp] theorem head_append (s : Nat) (l k : List PV) (h : headOk s l = true) (h' : headOk s k = true) : headOk s (l ++ k) = true := by
  cases l <;> simp_all
@[simp] theorem head_rows {α : Type} (f : α → Row) (l : List α) : headOk 1 (l.map fun x => eRow (f x)) = true := by cases l <;> simp

theorem column_run (name : List UInt8) (l : List Int) (o : Bool) (hl : l.length ≤ 2147483647) (h : List PObj) :
    callL L 21 [.str name, .list o (l.map (PV.int .i64))] h = some (eTrace ⟨[⟨name, 2, []⟩], l.map fun n => [⟨1, n⟩]⟩, h) := by
  refine callL_wp rfl rfl ?_
  have hd : PV.agg [.str name, .int .i64 2, .list false []] = eDecl ⟨name, 2, []⟩ := rfl
  have hr : ∀ n, PV.list false [eCell ⟨1, n⟩] = eRow [⟨1, n⟩] := fun _ => rfl
  have hc : ∀ n, PV.agg [.int .i64 1, .int .i64 n] = eCell ⟨1, n⟩ := fun _ => rfl
  simp [f_law44_column, setParts, hd]
  refine loop_fold l.length (fun i (x : PV) => ⟨[.str name, .list false (l.map (PV.int .i64)), .loc 0 [.list true [], .list true []], .loc 1 [.list false [eDecl ⟨name, 2, []⟩], .list true ((l.map fun n => eRow [⟨1, n⟩]).take i)], .int .i64 i], [], 2, h⟩) ?_ ?_ (.dead)
  · intro i hi x ih
    have hw := wrap_succ i (by omega)
    have hi2 : i + 1 ≤ 2147483648 := by omega
    rw [map_snoc _ _ _ hi] at ih
    have hm : min i l.length = i := by omega
    simp [hi, hw, setParts, hm, hi2, hc, hr]
    simp at ih
    exact ih
  · intro x
    have ht : (l.map fun n => eRow [⟨1, n⟩]).take l.length = l.map fun n => eRow [⟨1, n⟩] := List.take_of_length_le (by simp)
    simp [ht, eTrace]

theorem rows_run (V0 V1 V2 V3 V4 V5 V7 V8 V10 V11 V12 V13 V14 : PV) (V9' : PV) (c : PV) (done l : List Row) (g : Nat) (h : List PObj) (hl : done.length + l.length ≤ 4096) (rs : ∀ r ∈ l, r.length ≤ 2147483648) (Q : PExit → St → Prop)
    (hq : ∀ x, Q .normal ⟨[V0, V1, V2, V3, V4, V5, .loc 3 [c, .list true ((done ++ l).map eRow)], V7, V8, x, V10, V11, V12, V13, V14, .list false (l.map eRow), .int .i64 l.length, .int .i64 l.length], [], g, h⟩) :
    wpL L f_compare_Append_l1 ⟨[V0, V1, V2, V3, V4, V5, .loc 3 [c, .list true (done.map eRow)], V7, V8, V9', V10, V11, V12, V13, V14, .list false (l.map eRow), .int .i64 l.length, .int .i64 0], [], g, h⟩ (blockK 5 Q) := by
  rw [show PV.list true (done.map eRow) = PV.list true (done.map eRow ++ (l.map eRow).take 0) by simp]
  rw [f_compare_Append_l1]
  refine loop_fold l.length (fun i (x : PV) => ⟨[V0, V1, V2, V3, V4, V5, .loc 3 [c, .list true (done.map eRow ++ (l.map eRow).take i)], V7, V8, x, V10, V11, V12, V13, V14, .list false (l.map eRow), .int .i64 l.length, .int .i64 i], [], g, h⟩) ?_ ?_ V9'
  · intro i hi x ih
    have hw := wrap_succ i (by omega)
    have hm : min i l.length = i := by omega
    have hi2 : done.length + i + 1 ≤ 2147483648 := by omega
    have hc := cloneCell l[i] false (rs _ (List.getElem_mem hi)) []
    rw [map_snoc _ _ _ hi, ← List.append_assoc] at ih
    have hr : PV.list false (l[i].map eCell) = eRow l[i] := rfl
    have hr' : eRow l[i] = PV.list false (l[i].map eCell) := rfl
    simp [hi, hw, hr', hc, hm, hi2]
    simp [hr] at ih ⊢
    exact ih _
  · intro x
    have ht : (l.map eRow).take l.length = l.map eRow := List.take_of_length_le (by simp)
    simp [ht]
    simpa using hq x

theorem pAppend (a b : Trace) (ha : TraceOk a) (hb : TraceOk b) (hab : a.rows.length + b.rows.length ≤ 9223372036854775807) (hac : a.cols.length ≤ 2147483647) (has : ∀ d ∈ a.cols, d.clock.length * 32 ≤ 140737488351232) (har : ∀ r ∈ a.rows, r.length ≤ 2147483648) (hbr : ∀ r ∈ b.rows, r.length ≤ 2147483648) (h : List PObj) :
    callL L 15 [eTrace a, eTrace b] h = some (eErr (append a b), h) := by
  have h1 := same a.cols b.cols false false ha.c hb.c ha.cs hb.cs []
  have hw : IntKind.i64.wrap ((a.rows.length : Int) + b.rows.length) = ((a.rows.length + b.rows.length : Nat) : Int) := by
    have := ha.r; have := hb.r; unfold Len at *
    rw [wrap_i64 _ (by omega) (by omega)]; omega
  refine callL_wp rfl rfl ?_
  unfold append
  by_cases e : a.cols = b.cols
  · rw [← e] at h1
    by_cases e2 : 4096 < a.rows.length + b.rows.length
    · have e3 : (4096 : Int) < ((a.rows.length + b.rows.length : Nat) : Int) := by omega
      have e3' : (4096 : Int) < (a.rows.length : Int) + b.rows.length := by omega
      simp [f_compare_Append, h1, ← e, hw, e2, e3, e3', setParts, eErr, no_trace]
    · have e3 : ¬ (4096 : Int) < ((a.rows.length + b.rows.length : Nat) : Int) := by omega
      have e3' : ¬ (4096 : Int) < (a.rows.length : Int) + b.rows.length := by omega
      simp [f_compare_Append, h1, ← e, hw, e2, e3, e3', setParts, eErr, no_trace]
      refine loop_fold a.cols.length (fun i (x : PV × Nat) => ⟨[eTrace a, eTrace b, .loc 0 [.list false (a.cols.map eDecl), .list false (a.rows.map eRow)], .loc 1 [.list false (a.cols.map eDecl), .list false (b.rows.map eRow)], .loc 2 [.list true [], .list true []], .int .i64 0, .loc 3 [.list true ((a.cols.map eDecl).take i), .list true []], x.1, .dead, .dead, .list false (a.cols.map eDecl), .int .i64 a.cols.length, .int .i64 i, .dead, .dead, .dead, .dead, .dead], [], x.2, h⟩) ?_ ?_ (.dead, 4)
      · intro i hi x ih
        have hw := wrap_succ i (by omega)
        have hm : min i a.cols.length = i := by omega
        have hi2 : i + 1 ≤ 2147483648 := by omega
        have hc := copied a.cols[i] (has _ (List.getElem_mem hi)) []
        rw [map_snoc _ _ _ hi] at ih
        simp [hi, hw, hc, hm, hi2]
        simp at ih
        exact ih _ _
      · intro x
        have ht : (a.cols.map eDecl).take a.cols.length = a.cols.map eDecl := List.take_of_length_le (by simp)
        simp [ht, setParts]
        have w1 : IntKind.i64.wrap 1 = 1 := by decide
        have w2 : IntKind.i64.wrap 2 = 2 := by decide
        rw [f_compare_Append_l2, wpL_loop]
        simp
        refine rows_run _ _ _ _ _ _ _ _ _ _ _ _ _ _ _ [] a.rows _ h (by simp; omega) har _ ?_
        intro y
        simp [w1]
        rw [wpL_loop]
        simp
        refine rows_run _ _ _ _ _ _ _ _ _ _ _ _ _ _ _ a.rows b.rows _ h (by omega) hbr _ ?_
        intro y
        simp [w2]
        rw [wpL_loop]
        simp [eErr]
        simp [eTrace]
  · simp [f_compare_Append, h1, e, setParts, eErr, no_trace]

end PI.Cmp
