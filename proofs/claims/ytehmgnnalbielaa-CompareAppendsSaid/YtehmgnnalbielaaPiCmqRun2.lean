/-
  What the functions of compare come to: names, columns, cells, copies.
-/
import Derived.Test.YtehmgnnalbielaaPiCmqRun1
set_option maxRecDepth 100000
set_option linter.unusedSimpArgs false
set_option linter.unusedVariables false
namespace PI.Cmp
open Go (IntKind BinOp UnOp)

/-! ### Places -/

def idx (cols : List Decl) (s : List UInt8) : Option Nat := cols.findIdx? (fun d => decide (d.name = s))
theorem idx_some {cols : List Decl} {s : List UInt8} {i : Nat} (hi : i < cols.length) (h : cols[i].name = s) (hk : ∀ k (hk : k < i), ¬ (cols[k]'(by omega)).name = s) : idx cols s = some i := by
  unfold idx
  rw [List.findIdx?_eq_some_iff_getElem]
  exact ⟨hi, by simpa using h, fun j hj => by simpa using hk j hj⟩
theorem idx_none {cols : List Decl} {s : List UInt8} (hk : ∀ k (hk : k < cols.length), ¬ (cols[k]).name = s) : idx cols s = none := by
  unfold idx
  rw [List.findIdx?_eq_none_iff]
  intro x hx
  obtain ⟨k, hk', rfl⟩ := List.mem_iff_getElem.1 hx
  simpa using hk k hk'
theorem idx_lt {cols : List Decl} {s : List UInt8} {i : Nat} (h : idx cols s = some i) : ∃ hi : i < cols.length, cols[i].name = s := by
  unfold idx at h
  rw [List.findIdx?_eq_some_iff_getElem] at h
  obtain ⟨h1, h2, _⟩ := h
  exact ⟨h1, by simpa using h2⟩

def idxI : Option Nat → Int
  | some i => i
  | none => -1

theorem index (l : List (List UInt8)) (s : List UInt8) (o : Bool) (hl : Len l.length) (h : List PObj) : ∃ n : Int, callL L 45 [.list o (l.map .str), .str s] h = some (.int .i64 n, h) ∧ (0 ≤ n ↔ s ∈ l) := by
  suffices H : ∃ r, callL L 45 [.list o (l.map .str), .str s] h = some r ∧ ∃ n : Int, r = (.int .i64 n, h) ∧ (0 ≤ n ↔ s ∈ l) by
    obtain ⟨r, h1, n, rfl, h2⟩ := H
    exact ⟨n, h1, h2⟩
  refine callL_wpP (f := f_slices_Index_string) (P := fun r => ∃ n : Int, r = (.int .i64 n, h) ∧ (0 ≤ n ↔ s ∈ l)) rfl rfl ?_
  simp [f_slices_Index_string]
  refine loop_all l.length (fun i => decide (¬ l[i]? = some s)) (fun i (x : PV) => ⟨[.list false (l.map .str), .str s, .int .i64 0, x, .int .i64 l.length, .int .i64 i], [], 0, h⟩) ?_ ?_ ?_ .dead
  · intro i hi hok x ih
    have hw := wrap_succ i (by unfold Len at hl; omega)
    simp [hi] at hok
    have hok' : ¬ s = l[i] := fun e => hok e.symm
    simp [hi, hok', hw]
    exact ih _
  · intro i hi hok _ x
    simp [hi] at hok
    have hm : s ∈ l := by rw [← hok]; exact List.getElem_mem hi
    simp [hi, hok, endP, hm]
  · intro hok x
    have hm : ¬ s ∈ l := by
      intro hm
      obtain ⟨k, hk, e⟩ := List.mem_iff_getElem.1 hm
      have := hok k hk
      simp [hk, e] at this
    simp [endP, hm]

theorem contains (l : List (List UInt8)) (s : List UInt8) (o : Bool) (hl : Len l.length) (h : List PObj) : callL L 26 [.list o (l.map .str), .str s] h = some (.bool (decide (s ∈ l)), h) := by
  obtain ⟨n, h1, h2⟩ := index l s false hl []
  refine callL_wp rfl rfl ?_
  have : decide (n ≥ 0) = decide (s ∈ l) := decide_eq_decide.2 h2
  simp [f_slices_Contains_string, h1, this]

theorem has (l : List (List UInt8)) (s : List UInt8) (o : Bool) (hl : Len l.length) (h : List PObj) : callL L 28 [.list o (l.map .str), .str s] h = some (.bool (decide (s ∈ l)), h) := by
  refine callL_wp rfl rfl ?_
  simp [f_ref44_has]
  refine loop_all l.length (fun i => decide (¬ l[i]? = some s)) (fun i (x : Unit) => ⟨[.list false (l.map .str), .str s, .bool false, .int .i64 i], [], 0, h⟩) ?_ ?_ ?_ ()
  · intro i hi hok x ih
    have hw := wrap_succ i (by unfold Len at hl; omega)
    simp [hi] at hok
    simp [hi, hok, hw]
    exact ih ()
  · intro i hi hok _ x
    simp [hi] at hok
    have hm : s ∈ l := by rw [← hok]; exact List.getElem_mem hi
    simp [hi, hok, hm]
  · intro hok x
    have hm : ¬ s ∈ l := by
      intro hm
      obtain ⟨k, hk, e⟩ := List.mem_iff_getElem.1 hm
      have := hok k hk
      simp [hk, e] at this
    simp [hm]

theorem column (t : Trace) (s : List UInt8) (hl : Len t.cols.length) (h : List PObj) : callL L 27 [eTrace t, .str s] h = some (.int .i64 (idxI (idx t.cols s)), h) := by
  refine callL_wp rfl rfl ?_
  simp [f_ref44_column]
  refine loop_all t.cols.length (fun i => decide (¬ (t.cols[i]?).map (·.name) = some s)) (fun i (x : Unit) => ⟨[eTrace t, .str s, .loc 0 [.list false (t.cols.map eDecl), .list false (t.rows.map eRow)], .int .i64 0, .int .i64 i], [], 1, h⟩) ?_ ?_ ?_ ()
  · intro i hi hok x ih
    have hw := wrap_succ i (by unfold Len at hl; omega)
    simp [hi] at hok
    simp [hi, hok, hw]
    exact ih ()
  · intro i hi hok hk x
    simp [hi] at hok
    have hx : idx t.cols s = some i := idx_some hi hok (fun k hk' => by have := hk k hk'; have hk2 : k < t.cols.length := by omega
                                                                        simpa [hk2] using this)
    simp [hi, hok, hx, idxI]
  · intro hok x
    have hx : idx t.cols s = none := idx_none (fun k hk => by have := hok k hk; simpa [hk] using this)
    simp [hx, idxI]

/-! ### Cells -/

def zeroCell : Cell := ⟨0, 0⟩
theorem zero_cell : PV.agg [.int .i64 0, .int .i64 0] = eCell zeroCell := rfl

theorem cell (r : Row) (k : Nat) (o : Bool) (hl : Len r.length) (h : List PObj) : callL L 29 [.list o (r.map eCell), .int .i64 k] h = some (eCell (r.getD k zeroCell), h) := by
  refine callL_wp rfl rfl ?_
  by_cases hk : k < r.length
  · have hk' : (k : Int) < r.length := by omega
    simp [f_compare_cell, hk, hk', List.getD_eq_getElem?_getD]
  · have hk' : ¬ (k : Int) < r.length := by omega
    simp [f_compare_cell, hk, hk', List.getD_eq_getElem?_getD, setParts, zero_cell]

theorem refCell (t : Trace) (i : Nat) (s : List UInt8) (k : Nat) (hi : i < t.rows.length) (hx : idx t.cols s = some k) (hl : Len t.cols.length) (h : List PObj) :
    callL L 30 [eTrace t, .int .i64 i, .str s] h = some (eCell ((t.rows[i]).getD k zeroCell), h) := by
  have hc := column t s hl []
  rw [hx] at hc
  refine callL_wp rfl rfl ?_
  by_cases hk : k < (t.rows[i]).length
  · have hk' : (k : Int) < (t.rows[i]).length := by omega
    simp [f_ref44_cell, hc, idxI, hi, eRow, hk, hk', List.getD_eq_getElem?_getD]
  · have hk' : ¬ (k : Int) < (t.rows[i]).length := by omega
    simp [f_ref44_cell, hc, idxI, hi, eRow, hk, hk', List.getD_eq_getElem?_getD, setParts, zero_cell]

/-! ### Copies -/

theorem cloneOn (l : List On) (o : Bool) (hl : l.length * 32 ≤ 140737488351232) (h : List PObj) : callL L 46 [.list o (l.map eOn)] h = some (.list true (l.map eOn), h) := by
  refine callL_split rfl rfl rfl ?_ ?_
  · intro hv
    cases l with
    | nil => simp at hv
    | cons x l =>
      rw [List.length_cons] at hl
      have h1 : l.length + 1 ≤ 9223372036854775807 := by omega
      have h2 : (l.length + 1) * 32 ≤ 140737488355328 := by omega
      simp [f_slices_Clone_api_On, h1, h2]
  · intro hv
    cases l with
    | nil => simp [f_slices_Clone_api_On]
    | cons x l => simp at hv

theorem cloneCell (l : Row) (o : Bool) (hl : l.length ≤ 2147483648) (h : List PObj) : callL L 32 [.list o (l.map eCell)] h = some (.list true (l.map eCell), h) := by
  refine callL_split rfl rfl rfl ?_ ?_
  · intro hv
    cases l with
    | nil => simp at hv
    | cons x l => simp at hl; simp [f_slices_Clone_api_Cell, hl]
  · intro hv
    cases l with
    | nil => simp [f_slices_Clone_api_Cell]
    | cons x l => simp at hv

theorem copied (d : Decl) (hl : d.clock.length * 32 ≤ 140737488351232) (h : List PObj) : callL L 31 [eDecl d] h = some (eDecl d, h) := by
  have hc := cloneOn d.clock false hl []
  refine callL_wp rfl rfl ?_
  simp [f_compare_copied, hc]

/-! ### Equality -/

structure TraceOk (t : Trace) : Prop where
  c : Len t.cols.length
  r : Len t.rows.length
  cs : ∀ d ∈ t.cols, Len d.clock.length
  rs : ∀ r ∈ t.rows, Len r.length

theorem same (a b : List Decl) (o o' : Bool) (ha : Len a.length) (hb : Len b.length) (ra : ∀ r ∈ a, Len r.clock.length) (rb : ∀ r ∈ b, Len r.clock.length) (h : List PObj) : callL L 22 [.list o (a.map eDecl), .list o' (b.map eDecl)] h = some (.bool (decide (a = b)), h) := by
  refine callL_wp rfl rfl ?_
  simp [f_compare_same, equalDecls a b false false ha hb ra rb []]
theorem equal (a b : List Row) (o o' : Bool) (ha : Len a.length) (hb : Len b.length) (ra : ∀ r ∈ a, Len r.length) (rb : ∀ r ∈ b, Len r.length) (h : List PObj) : callL L 23 [.list o (a.map eRow), .list o' (b.map eRow)] h = some (.bool (decide (a = b)), h) := by
  refine callL_wp rfl rfl ?_
  simp [f_compare_equal, equalRows a b false false ha hb ra rb []]

theorem Trace.ext_iff' {x y : Trace} : x = y ↔ x.cols = y.cols ∧ x.rows = y.rows := by
  cases x; cases y; simp

theorem pSame (a b : Trace) (ha : TraceOk a) (hb : TraceOk b) (h : List PObj) : callL L 6 [eTrace a, eTrace b] h = some (.bool (decide (a = b)), h) := by
  have h1 := same a.cols b.cols false false ha.c hb.c ha.cs hb.cs []
  have h2 := equal a.rows b.rows false false ha.r hb.r ha.rs hb.rs []
  refine callL_wp rfl rfl ?_
  by_cases e : a.cols = b.cols
  · rw [e] at h1
    simp [f_compare_Same, h1, h2, e, Trace.ext_iff']
  · simp [f_compare_Same, h1, h2, e, Trace.ext_iff']
theorem rSame (a b : Trace) (ha : TraceOk a) (hb : TraceOk b) (h : List PObj) : callL L 7 [eTrace a, eTrace b] h = some (.bool (decide (a = b)), h) := by
  have h1 := decls a.cols b.cols false false ha.c hb.c ha.cs hb.cs []
  have h2 := tables a.rows b.rows false false ha.r hb.r ha.rs hb.rs []
  refine callL_wp rfl rfl ?_
  by_cases e : a.cols = b.cols
  · rw [e] at h1
    simp [f_ref44_Same, h1, h2, e, Trace.ext_iff']
  · simp [f_ref44_Same, h1, h2, e, Trace.ext_iff']

def isPrefix (a b : Trace) : Bool := decide (a.cols = b.cols) && decide (a.rows.length ≤ b.rows.length) && decide (a.rows = b.rows.take a.rows.length)

theorem pPrefix (a b : Trace) (ha : TraceOk a) (hb : TraceOk b) (h : List PObj) : callL L 17 [eTrace a, eTrace b] h = some (.bool (isPrefix a b), h) := by
  have h1 := same a.cols b.cols false false ha.c hb.c ha.cs hb.cs []
  refine callL_wp rfl rfl ?_
  unfold isPrefix
  by_cases e : a.cols = b.cols
  · rw [e] at h1
    by_cases e2 : a.rows.length ≤ b.rows.length
    · have e3 : (a.rows.length : Int) ≤ b.rows.length := by omega
      have h2 := equal a.rows (b.rows.take a.rows.length) false false ha.r (by rw [List.length_take]; have := hb.r; unfold Len at *; omega) ha.rs (fun r hr => hb.rs r (List.mem_of_mem_take hr)) []
      rw [List.map_take] at h2
      simp [f_compare_Prefix, h1, h2, e, e2, e3]
    · have e3 : ¬ (a.rows.length : Int) ≤ b.rows.length := by omega
      simp [f_compare_Prefix, h1, e, e2, e3]
  · simp [f_compare_Prefix, h1, e]
theorem rPrefix (a b : Trace) (ha : TraceOk a) (hb : TraceOk b) (h : List PObj) : callL L 18 [eTrace a, eTrace b] h = some (.bool (isPrefix a b), h) := by
  have h1 := decls a.cols b.cols false false ha.c hb.c ha.cs hb.cs []
  refine callL_wp rfl rfl ?_
  unfold isPrefix
  by_cases e : a.cols = b.cols
  · rw [e] at h1
    by_cases e2 : a.rows.length ≤ b.rows.length
    · have e3 : (a.rows.length : Int) ≤ b.rows.length := by omega
      have h2 := tables a.rows (b.rows.take a.rows.length) false false ha.r (by rw [List.length_take]; have := hb.r; unfold Len at *; omega) ha.rs (fun r hr => hb.rs r (List.mem_of_mem_take hr)) []
      rw [List.map_take] at h2
      simp [f_ref44_Prefix, h1, h2, e, e2, e3]
    · have e3 : ¬ (a.rows.length : Int) ≤ b.rows.length := by omega
      simp [f_ref44_Prefix, h1, e, e2, e3]
  · simp [f_ref44_Prefix, h1, e]

end PI.Cmp
