/-
  What the functions of traces come to: the parser's rows; Parse.
-/
import Derived.Test.YtegahghjancjpaaDoorPiTrRun7
set_option maxRecDepth 100000
set_option linter.unusedSimpArgs false
set_option linter.unusedVariables false
namespace PI.Tr
open Go (IntKind BinOp UnOp)

theorem flat_type : ∀ (cols : List Decl) (i : Nat) (h : i < cols.length), (flat cols)[i * 3 + 1]? = some (.int .i64 cols[i].type)
  | d :: r, 0, _ => rfl
  | d :: r, i + 1, h => by
    have e : flat (d :: r) = (eDecl d).cells ++ flat r := rfl
    rw [e, show (i + 1) * 3 + 1 = (eDecl d).cells.length + (i * 3 + 1) by simp; omega, List.getElem?_append_right (by omega), Nat.add_sub_cancel_left, flat_type r i (by simpa using h)]
    rfl

/-- The cell of a word. -/
def parseCell (en : List Enum) (t : Int) (s : Str) : Option Cell :=
  if s = [45] then some ⟨0, 0⟩ else if s = [63] then some ⟨2, 0⟩ else if (valParse en t s).2 = 0 then some ⟨1, (valParse en t s).1⟩ else none

def cellAt (en : List Enum) (cols : List Decl) (l : List Str) (k : Nat) : Option Cell := parseCell en (cols.getD k default).type (l.getD k [])
/-- The error of a later line. -/
def lineErr (en : List Enum) (cols : List Decl) (rows : List Row) (l : List Str) : Int :=
  if rows.length = 4096 then 3 else if l.length ≠ cols.length then 9 else firstErr l.length (fun i => if (cellAt en cols l i).isNone then 5 else 0)
def lineCells (en : List Enum) (cols : List Decl) (l : List Str) (n : Nat) : List Cell := (List.range n).map fun k => (cellAt en cols l k).getD zeroCell
theorem lineCells_succ (en : List Enum) (cols : List Decl) (l : List Str) (n : Nat) : lineCells en cols l (n + 1) = lineCells en cols l n ++ [(cellAt en cols l n).getD zeroCell] := by simp [lineCells, List.range_succ]
@[simp] theorem lineCells_len (en : List Enum) (cols : List Decl) (l : List Str) (n : Nat) : (lineCells en cols l n).length = n := by simp [lineCells]

section
variable {L : Nat → Option PFunc} (hL : ∀ k f, Lc k = some f → L k = some f)
include hL

theorem parser_row (n : Nat) (en : List Enum) (hen : EOK en) (l : List Str) (hl : ∀ s ∈ l, s.length ≤ 281474976710656) (cols : List Decl) (hcols : ∀ d ∈ cols, I64 d.type) (hlen : cols.length ≤ 384) (rows : List Row) (hrows : rows.length ≤ 4096) (o : Bool) (h : List PObj) (hp : PS n en cols (.list true (rows.map eRow)) h) :
    ∃ h', callL L 30 [.ptr n 0, .list o (l.map .str)] h = some (.int .i64 (lineErr en cols rows l), h') ∧ (lineErr en cols rows l = 0 → PS n en cols (.list true ((rows ++ [lineCells en cols l l.length]).map eRow)) h') := by
  suffices H : ∃ r, callL L 30 [.ptr n 0, .list o (l.map .str)] h = some r ∧ (r.1 = .int .i64 (lineErr en cols rows l) ∧ (lineErr en cols rows l = 0 → PS n en cols (.list true ((rows ++ [lineCells en cols l l.length]).map eRow)) r.2)) by
    obtain ⟨⟨v, h'⟩, h1, h2, h3⟩ := H
    exact ⟨h', by rw [h1]; simp at h2; rw [h2], h3⟩
  refine callL_wpP (hL 30 _ rfl) rfl ?_
  obtain ⟨C, hn, hC⟩ := hp
  have hnl : n < h.length := (List.getElem?_eq_some_iff.1 hn).1
  have hCl : (C = .list true [] ∧ cols = []) ∨ ∃ m, m ≠ n ∧ C = .rowp m 3 true cols.length ∧ h[m]? = some (.cells (flat cols)) := by
    rcases hC with ⟨h1, h2⟩ | h1
    · exact .inl ⟨h2, h1⟩
    · exact .inr h1
  by_cases h0 : rows.length = 4096
  · have he : lineErr en cols rows l = 3 := if_pos h0
    rw [he]
    simp [f_trace_parser_row, hn, h0, endP]
  · have h0' : ¬ (rows.length : Int) = 4096 := by omega
    by_cases h1 : l.length = cols.length
    · have h1' : (l.length : Int) = cols.length := by omega
      have he : lineErr en cols rows l = firstErr l.length (fun i => if (cellAt en cols l i).isNone then 5 else 0) := by rw [lineErr, if_neg h0, if_neg (by simpa using h1)]
      generalize lineErr en cols rows l = E at he ⊢
      have go : wpL L f_trace_parser_row_l0 ⟨[.ptr n 0, .list false (l.map .str), .int .i64 0, .list true [], .dead, .dead, .dead, .dead, .dead, .list false (l.map .str), .int .i64 l.length, .int .i64 0, .dead], [], 0, h⟩ (blockK 0 (seqK L (((PC.region [⟨.l, .mov (.v 0), none⟩,
  ⟨.l, .mov (.v 0), none⟩,
  ⟨.l, .h (.nilchk (.l 1)), none⟩,
  ⟨.l, .faddr 1 (.l 2), none⟩,
  ⟨.l, .faddr 1 (.l 3), none⟩,
  ⟨.l, .h (.load 1 false (.l 4) true), none⟩,
  ⟨.l, .mov (.v 3), none⟩,
  ⟨.l, .mkslice 1 (.list true []) 1 [(0, (.l 6))], none⟩,
  ⟨.l, .append 1 24 (.l 5) (.l 7), none⟩,
  ⟨.l, .h (.nilchk (.l 0)), none⟩,
  ⟨.l, .faddr 1 (.l 9), none⟩,
  ⟨.l, .faddr 1 (.l 10), none⟩,
  ⟨.n, .h (.store 1 false (.l 11) (.l 8)), none⟩]).seq ((PC.region [⟨.v 2, .take (.c (.int .i64 0)), none⟩]).seq PC.ret))) (endP [PRes.var 2] fun r => r.1 = PV.int .i64 E ∧ (E = 0 → PS n en cols (.list true ((rows ++ [lineCells en cols l l.length]).map eRow)) r.2)))) := by
        unfold f_trace_parser_row_l0
        refine loop_updG l.length (fun i => (cellAt en cols l i).isSome) (fun i (x : (PV × PV × PV × PV × PV) × PV) => [(3, .list true ((lineCells en cols l i).map eCell)), (4, x.1.1), (5, x.1.2.1), (6, x.1.2.2.1), (7, x.1.2.2.2.1), (8, x.1.2.2.2.2), (11, .int .i64 i), (12, x.2)]) (fun i _ => i) (fun _ _ => h) ((.dead, .dead, .dead, .dead, .dead), .dead) ?_ ?_ ?_ rfl rfl rfl
        · intro i hi hz x ih
          have hw := wrap_succ i (by omega)
          rcases hCl with ⟨rfl, rfl⟩ | ⟨m, hmn, rfl, hm2⟩
          · simp at h1; rw [h1] at hi; simp at hi
          · have hic : i < cols.length := by omega
            have hic' : (i : Int) < cols.length := by omega
            have hft := flat_type cols i hic
            have hvp := value_parse hL en hen cols[i].type (hcols _ (List.getElem_mem hic)) l[i] (hl _ (List.getElem_mem hi)) false []
            have hsucc := lineCells_succ en cols l i
            have hb : i + 1 ≤ 2147483648 := by omega
            simp only [cellAt, List.getD, List.getElem?_eq_getElem hi, List.getElem?_eq_getElem hic, Option.getD_some] at hz hsucc
            have z0 : PV.agg [.int .i64 0, .int .i64 0] = eCell ⟨0, 0⟩ := rfl
            have z2 : PV.agg [.int .i64 2, .int .i64 0] = eCell ⟨2, 0⟩ := rfl
            have z1 : ∀ v : Int, PV.agg [.int .i64 1, .int .i64 v] = eCell ⟨1, v⟩ := fun _ => rfl
            unfold parseCell at hz hsucc
            by_cases s1 : l[i] = [45]
            · rw [if_pos s1] at hsucc
              simp [hi, s1, hw, hb]
              simpa [hsucc, z0, z1, z2] using ih ((_, _, _, _, _), _)
            · by_cases s2 : l[i] = [63]
              · rw [if_neg s1, if_pos s2] at hsucc
                simp [hi, s2, hw, hb]
                simpa [hsucc, z0, z1, z2] using ih ((_, _, _, _, _), _)
              · rw [if_neg s1, if_neg s2] at hz hsucc
                by_cases s3 : (valParse en cols[i].type l[i]).2 = 0
                · rw [if_pos s3] at hsucc
                  simp [hi, s1, s2, s3, hw, hb, hn, hm2, hic', hft, hvp]
                  simpa [hsucc, z0, z1, z2] using ih ((_, _, _, _, _), _)
                · rw [if_neg s3] at hz; simp at hz
        · intro i hi hz hk x
          have hf := firstErr_at (err := fun i => if (cellAt en cols l i).isNone then (5 : Int) else 0) hi (by simp at hz ⊢; simp [hz]) (fun k hk' => if_neg (some_not_none (hk k hk')))
          rw [hf] at he
          have hz' : cellAt en cols l i = none := by simpa using hz
          rw [hz'] at he
          simp at he
          subst he
          rcases hCl with ⟨rfl, rfl⟩ | ⟨m, hmn, rfl, hm2⟩
          · simp at h1; rw [h1] at hi; simp at hi
          · have hic : i < cols.length := by omega
            have hic' : (i : Int) < cols.length := by omega
            have hft := flat_type cols i hic
            have hvp := value_parse hL en hen cols[i].type (hcols _ (List.getElem_mem hic)) l[i] (hl _ (List.getElem_mem hi)) false []
            simp only [cellAt, List.getD, List.getElem?_eq_getElem hi, List.getElem?_eq_getElem hic, Option.getD_some] at hz'
            unfold parseCell at hz'
            by_cases s1 : l[i] = [45]
            · rw [if_pos s1] at hz'; simp at hz'
            · by_cases s2 : l[i] = [63]
              · rw [if_neg s1, if_pos s2] at hz'; simp at hz'
              · rw [if_neg s1, if_neg s2] at hz'
                by_cases s3 : (valParse en cols[i].type l[i]).2 = 0
                · rw [if_pos s3] at hz'; simp at hz'
                · simp [hi, s1, s2, s3, hn, hm2, hic', hft, hvp, endP]
        · intro hz x
          have hf := firstErr_no (err := fun i => if (cellAt en cols l i).isNone then (5 : Int) else 0) (n := l.length) (fun k hk => if_neg (some_not_none (hz k hk)))
          rw [hf] at he
          subst he
          have hb : rows.length + 1 ≤ 2147483648 := by omega
          have hno : ∀ X Y : PObj, ((h.set n X).set n Y)[n]? = some Y := fun X Y => by rw [List.getElem?_set_self (by simpa using hnl)]
          have hno' : ∀ X : PObj, (h.set n X)[n]? = some X := fun X => by rw [List.getElem?_set_self hnl]
          have hfold : PV.list false ((lineCells en cols l l.length).map eCell) = eRow (lineCells en cols l l.length) := rfl
          simp [hn, hb, hno', hfold, endP]
          refine ⟨C, ?_, ?_⟩
          · simp [hnl]
          · rcases hC with hC | ⟨m, e1, e2, e3⟩
            · exact .inl hC
            · exact .inr ⟨m, e1, e2, by rw [List.getElem?_set_ne (Ne.symm e1)]; exact e3⟩
      rcases hCl with ⟨rfl, rfl⟩ | ⟨m, hmn, rfl, hm2⟩
      · simp at h1
        subst h1
        simp [f_trace_parser_row, hn, h0']
        simpa using go
      · simp [f_trace_parser_row, hn, h0', h1']
        simpa [h1'] using go
    · have h1' : ¬ (l.length : Int) = cols.length := by omega
      have he : lineErr en cols rows l = 9 := by rw [lineErr, if_neg h0, if_pos h1]
      rw [he]
      rcases hCl with ⟨rfl, rfl⟩ | ⟨m, hmn, rfl, hm2⟩
      · have hl0 : ¬ l = [] := by rintro rfl; exact h1 rfl
        simp [f_trace_parser_row, hn, h0', hl0, endP]
      · simp [f_trace_parser_row, hn, h0', h1', endP]
end
end PI.Tr
