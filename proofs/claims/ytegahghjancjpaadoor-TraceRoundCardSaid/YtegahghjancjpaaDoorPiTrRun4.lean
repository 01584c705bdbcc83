/-
  What the functions of traces come to: Check; the text of a value.
-/
import Derived.Test.YtegahghjancjpaaDoorPiTrRun3
set_option maxRecDepth 100000
set_option linter.unusedSimpArgs false
set_option linter.unusedVariables false
namespace PI.Tr
open Go (IntKind BinOp UnOp)

theorem firstErr_zero {n : Nat} {err : Nat → Int} (h : firstErr n err = 0) : ∀ k, k < n → err k = 0 := by
  intro k hk
  unfold firstErr at h
  cases hf : (List.range n).find? (fun i => decide (err i ≠ 0)) with
  | none =>
    rw [List.find?_eq_none] at hf
    simpa using hf k (by simpa using hk)
  | some i =>
    rw [hf] at h
    have := List.find?_some hf
    simp at this h
    exact absurd h this
theorem firstErr_some {n : Nat} {err : Nat → Int} (h : firstErr n err ≠ 0) : ∃ i, i < n ∧ err i ≠ 0 ∧ (∀ k, k < i → err k = 0) ∧ firstErr n err = err i := by
  unfold firstErr at h ⊢
  cases hf : (List.range n).find? (fun i => decide (err i ≠ 0)) with
  | none => rw [hf] at h; simp at h
  | some i =>
    obtain ⟨h1, j, hj, h2, h3⟩ := List.find?_eq_some_iff_getElem.1 hf
    simp at h2 hj
    subst h2
    refine ⟨j, hj, by simpa using h1, ?_, rfl⟩
    intro k hk
    simpa using h3 k hk

def zeroCell : Cell := ⟨0, 0⟩
/-- The error of a row. -/
def rowErr (en : List Enum) (cols : List Decl) (r : Row) : Int :=
  if r.length ≠ cols.length then 9 else firstErr r.length (fun i => cellErr en (cols.getD i default).type (r.getD i default))
/-- The error of a trace. -/
def checkErr (en : List Enum) (t : Trace) : Int :=
  if 4096 < t.rows.length ∨ 384 < t.cols.length then 3
  else if firstErr t.cols.length (colErr en t.cols) ≠ 0 then firstErr t.cols.length (colErr en t.cols)
  else firstErr t.rows.length (fun r => rowErr en t.cols (t.rows.getD r []))

/-- A trace as a machine holds it. -/
structure TrOK (t : Trace) : Prop where
  cols : ColsOK t.cols
  rows : Len t.rows.length
  row : ∀ r ∈ t.rows, Len r.length
  cell : ∀ r ∈ t.rows, ∀ c ∈ r, I64 c.v

section
variable {L : Nat → Option PFunc} (hL : ∀ k f, Lc k = some f → L k = some f)
include hL

theorem check_row (en : List Enum) (cols : List Decl) (hok : ColsOK cols) (row : Row) (hlen : row.length = cols.length) (R C : PV) (n r g : Nat) (h : List PObj) (x6 x7 x8 : PV) {Q : PExit → St → Prop}
    (h0 : rowErr en cols row = 0 → ∀ y6 y7 y8 y14 g', Q (.exit 2) ⟨[.list false (en.map eEnum), C, .loc 0 [.list false (cols.map eDecl), R], .int .i64 0, .int .i64 0, .list false (row.map eCell), y6, y7, y8, R, .int .i64 n, .int .i64 r, .list false (row.map eCell), .int .i64 row.length, y14], [], g', h⟩)
    (h1 : rowErr en cols row ≠ 0 → ∀ y6 y7 y8 y14 g', Q .ret ⟨[.list false (en.map eEnum), C, .loc 0 [.list false (cols.map eDecl), R], .int .i64 (rowErr en cols row), .int .i64 0, .list false (row.map eCell), y6, y7, y8, R, .int .i64 n, .int .i64 r, .list false (row.map eCell), .int .i64 row.length, y14], [], g', h⟩) :
    wpL L f_trace_Check_l0 ⟨[.list false (en.map eEnum), C, .loc 0 [.list false (cols.map eDecl), R], .int .i64 0, .int .i64 0, .list false (row.map eCell), x6, x7, x8, R, .int .i64 n, .int .i64 r, .list false (row.map eCell), .int .i64 row.length, .int .i64 0], [], g, h⟩ Q := by
  have hr : rowErr en cols row = firstErr row.length (fun i => cellErr en (cols.getD i default).type (row.getD i default)) := if_neg (by simpa using hlen)
  refine loop_updG row.length (fun i => decide (cellErr en (cols.getD i default).type (row.getD i default) = 0)) (fun i (x : PV × PV × PV × Nat) => [(6, x.1), (7, x.2.1), (8, x.2.2.1), (14, .int .i64 i)]) (fun _ x => x.2.2.2) (fun _ _ => h) (x6, x7, x8, g) ?_ ?_ ?_ rfl rfl rfl
  · intro i hi hz x ih
    have hw := wrap_succ i (by have := hok.1; omega)
    have hi' : i < cols.length := by omega
    simp only [List.getD, List.getElem?_eq_getElem hi, List.getElem?_eq_getElem hi', Option.getD_some, decide_eq_true_eq] at hz
    have hc := trace_cell hL en cols[i].type (hok.at hi') row[i] false []
    simp [hi, hi', hc, hz, hw]
    simpa using ih (_, _, _, _)
  · intro i hi hz hk x
    have hi' : i < cols.length := by omega
    have hf := firstErr_at (err := fun i => cellErr en (cols.getD i default).type (row.getD i default)) hi (by simpa using hz) (fun k hk' => by simpa using hk k hk')
    simp only [List.getD, List.getElem?_eq_getElem hi, List.getElem?_eq_getElem hi', Option.getD_some, decide_eq_false_iff_not] at hz hf
    rw [hr] at h1
    simp only [List.getD] at h1
    rw [hf] at h1
    have hc := trace_cell hL en cols[i].type (hok.at hi') row[i] false []
    simp [hi, hi', hc, hz]
    exact h1 hz _ _ _ _ _
  · intro hz x
    have hf := firstErr_no (err := fun i => cellErr en (cols.getD i default).type (row.getD i default)) (n := row.length) (fun k hk => by simpa using hz k hk)
    simp
    exact h0 (hr.trans hf) _ _ _ _ _

theorem trace_check (en : List Enum) (t : Trace) (hok : TrOK t) (o : Bool) (h : List PObj) : ∃ h', callL L 7 [.list o (en.map eEnum), eTrace t] h = some (.int .i64 (checkErr en t), h') := by
  suffices H : ∃ r, callL L 7 [.list o (en.map eEnum), eTrace t] h = some r ∧ r.1 = .int .i64 (checkErr en t) by
    obtain ⟨⟨v, h'⟩, h1, h2⟩ := H
    exact ⟨h', by rw [h1]; simp at h2; rw [h2]⟩
  refine callL_wpP (hL 7 _ rfl) rfl ?_
  obtain ⟨h', hcols⟩ := trace_columns hL en t.cols hok.cols false false []
  unfold checkErr
  by_cases h1 : 4096 < t.rows.length
  · have h1' : (4096 : Int) < t.rows.length := by omega
    simp [f_trace_Check, h1, h1', endP]
  · have h1' : ¬ (4096 : Int) < t.rows.length := by omega
    by_cases h2 : 384 < t.cols.length
    · have h2' : (384 : Int) < t.cols.length := by omega
      simp [f_trace_Check, h1, h1', h2, h2', endP]
    · have h2' : ¬ (384 : Int) < t.cols.length := by omega
      rw [if_neg (by simp [h1, h2])]
      by_cases h3 : firstErr t.cols.length (colErr en t.cols) = 0
      · rw [if_neg (by simpa using h3)]
        generalize hE : firstErr t.rows.length (fun r => rowErr en t.cols (t.rows.getD r [])) = E
        simp [f_trace_Check, h1', h2', hcols, h3]
        refine loop_updG t.rows.length (fun r => decide (rowErr en t.cols (t.rows.getD r []) = 0)) (fun r (x : (PV × PV × PV × PV) × (PV × PV × PV) × Nat) => [(5, x.1.1), (6, x.1.2.1), (7, x.1.2.2.1), (8, x.1.2.2.2), (11, .int .i64 r), (12, x.2.1.1), (13, x.2.1.2.1), (14, x.2.1.2.2)]) (fun _ x => x.2.2) (fun _ _ => h) ((.dead, .dead, .dead, .dead), (.dead, .dead, .dead), 1) ?_ ?_ ?_ rfl rfl rfl
        · intro r hr hz x ih
          have hw := wrap_succ r (by omega)
          simp only [List.getD, List.getElem?_eq_getElem hr, Option.getD_some, decide_eq_true_eq] at hz
          have hlen : t.rows[r].length = t.cols.length := by
            unfold rowErr at hz
            by_cases hl : t.rows[r].length = t.cols.length
            · exact hl
            · rw [if_pos hl] at hz; simp at hz
          have hlen' : ((t.rows[r].length : Nat) : Int) = t.cols.length := by omega
          simp [hr, eRow, hlen']
          rw [← hlen']
          refine check_row hL en t.cols hok.cols t.rows[r] hlen _ _ _ _ _ _ _ _ _ ?_ (fun hne => absurd hz hne)
          intro _ y6 y7 y8 y14 g'
          simp [hw]
          simpa using ih ((_, _, _, _), (_, _, _), _)
        · intro r hr hz hk x
          have hf := firstErr_at (err := fun r => rowErr en t.cols (t.rows.getD r [])) hr (by simpa using hz) (fun k hk' => by simpa using hk k hk')
          rw [hE] at hf
          simp only [List.getD, List.getElem?_eq_getElem hr, Option.getD_some, decide_eq_false_iff_not] at hz hf
          rw [hf]
          by_cases hlen : t.rows[r].length = t.cols.length
          · have hlen' : ((t.rows[r].length : Nat) : Int) = t.cols.length := by omega
            simp [hr, eRow, hlen']
            rw [← hlen']
            refine check_row hL en t.cols hok.cols t.rows[r] hlen _ _ _ _ _ _ _ _ _ (fun he => absurd he hz) ?_
            intro _ y6 y7 y8 y14 g'
            simp [endP]
          · have hlen' : ¬ ((t.rows[r].length : Nat) : Int) = t.cols.length := by omega
            have he : rowErr en t.cols t.rows[r] = 9 := if_pos hlen
            simp [hr, eRow, hlen', he, endP]
        · intro hz x
          have hf := firstErr_no (err := fun r => rowErr en t.cols (t.rows.getD r [])) (n := t.rows.length) (fun k hk => by simpa using hz k hk)
          rw [hE] at hf
          rw [hf]
          simp [endP]
      · rw [if_pos h3]
        simp [f_trace_Check, h1', h2', hcols, h3, endP]

/-! ### The text of a value -/

theorem strconv_itoa (n : Int) (hn : I64 n) (h : List PObj) : callL L 47 [.int .i64 n] h = some (.str (Go.Lib.itoa n), h) := by
  rw [callL_prim (hL 47 _ rfl) rfl rfl]
  simp [pItoa, hn.1, hn.2]

def boolText (b : Bool) : Str := if b then [116, 114, 117, 101] else [102, 97, 108, 115, 101]
theorem format_bool (b : Bool) (h : List PObj) : callL L 46 [.bool b] h = some (.str (boolText b), h) := by
  have h1 : callL L 57 [.bool b] [] = some (.str (boolText b), []) := by
    refine callL_wp (hL 57 _ rfl) rfl ?_
    cases b <;> simp [f_internal_strconv_FormatBool, boolText]
  refine callL_wp (hL 46 _ rfl) rfl ?_
  simp [f_strconv_FormatBool, h1]

/-- The text of a value of a type, or the error. -/
def valText (en : List Enum) (t v : Int) : Str × Int :=
  if (tyName en t).isNone then ([], 10) else if tyHas en t v = false then ([], 14) else if t = 1 then (boolText (v == 1), 0) else if t = 2 then (Go.Lib.itoa v, 0)
  else (((enumAt en t).bind fun u => u.tags[v.toNat]?).getD [], 0)

theorem value_text (en : List Enum) (t v : Int) (ht : I64 t) (hv : I64 v) (o : Bool) (h : List PObj) : callL L 36 [.list o (en.map eEnum), .int .i64 t, .int .i64 v] h = some (.tuple [.str (valText en t v).1, .int .i64 (valText en t v).2], h) := by
  refine callL_wp (hL 36 _ rfl) rfl ?_
  have h1 := value_valid hL en t ht false []
  have h2 := value_has hL en t v ht false []
  unfold valText
  cases hn : tyName en t with
  | none => simp [f_value_Text, h1, hn]
  | some nm =>
    cases hh : tyHas en t v with
    | false => simp [f_value_Text, h1, h2, hn, hh]
    | true =>
      by_cases e1 : t = 1
      · subst e1; simp [f_value_Text, h1, h2, hn, hh, format_bool hL]
      · by_cases e2 : t = 2
        · subst e2; simp [f_value_Text, h1, h2, hn, hh, strconv_itoa hL v hv]
        · rcases ty_cases t with h3 | ⟨k, rfl⟩
          · simp [tyName, e1, e2, enumAt_lt h3] at hn
          · have hw : IntKind.i64.wrap (k : Int) = k := by rw [wrap_i64] <;> omega
            by_cases hk : k < en.length
            · have he := enumAt_in hk
              simp [tyHas, tySize, e1, e2, he] at hh
              obtain ⟨m, rfl⟩ : ∃ m : Nat, v = m := ⟨v.toNat, by omega⟩
              have hm : m < en[k].tags.length := by omega
              simp [f_value_Text, h1, h2, hn, tyHas, tySize, hh, e1, e2, he, hw, hk, hm]
            · have he := enumAt_out (en := en) (k := k) (by omega)
              simp [tyName, e1, e2, he] at hn

/-- The word of a cell. -/
def cellWord (en : List Enum) (t : Int) (c : Cell) : Str := if c.kind = 0 then [45] else if c.kind = 2 then [63] else (valText en t c.v).1

theorem trace_word (en : List Enum) (t : Int) (c : Cell) (ht : I64 t) (hc : I64 c.v) (o : Bool) (h : List PObj) : callL L 22 [.list o (en.map eEnum), .int .i64 t, eCell c] h = some (.str (cellWord en t c), h) := by
  refine callL_wp (hL 22 _ rfl) rfl ?_
  have h1 := value_text hL en t c.v ht hc false []
  obtain ⟨k, v⟩ := c
  by_cases h0 : k = 0
  · subst h0; simp [f_trace_word, cellWord]
  · by_cases h2 : k = 2
    · subst h2; simp [f_trace_word, cellWord]
    · simp [f_trace_word, cellWord, h0, h2, h1]
end
end PI.Tr
