/-
  What the functions of traces come to: whether a trace is valid.
-/
import Derived.Test.YtegahghjancjpaaDoorPiTrRun2
set_option maxRecDepth 100000
set_option linter.unusedSimpArgs false
set_option linter.unusedVariables false
namespace PI.Tr
open Go (IntKind BinOp UnOp)

/-! ### The first of several errors -/

def firstErr (n : Nat) (err : Nat → Int) : Int := (((List.range n).find? fun i => err i ≠ 0).map err).getD 0
theorem firstErr_at {n i : Nat} {err : Nat → Int} (hi : i < n) (h : err i ≠ 0) (hk : ∀ k, k < i → err k = 0) : firstErr n err = err i := by
  unfold firstErr
  have : (List.range n).find? (fun i => decide (err i ≠ 0)) = some i := by
    rw [List.find?_eq_some_iff_getElem]
    refine ⟨by simpa using h, i, by simpa using hi, by simp, ?_⟩
    intro j hj
    simpa using hk j hj
  rw [this]; rfl
theorem firstErr_no {n : Nat} {err : Nat → Int} (hk : ∀ k, k < n → err k = 0) : firstErr n err = 0 := by
  unfold firstErr
  have : (List.range n).find? (fun i => decide (err i ≠ 0)) = none := by
    rw [List.find?_eq_none]
    intro x hx
    simpa using hk x (by simpa using hx)
  rw [this]; rfl

/-! ### Sets of names, as maps -/

def smap (l : List Str) : List (PV × PV) := l.map fun s => (PV.str s, PV.bool true)
theorem smap_no {s : Str} : ∀ {l : List Str} {i : Nat}, s ∉ l → mfind false [.s] (.str s) (smap l) i = some none
  | [], _, _ => rfl
  | x :: l, i, h => by
    simp only [List.mem_cons, not_or] at h
    have : ¬ s = x := h.1
    simp [smap, mfind, this]
    exact smap_no h.2
theorem smap_yes {s : Str} : ∀ {l : List Str} {i : Nat}, s ∈ l → ∃ k, mfind false [.s] (.str s) (smap l) i = some (some (k, .bool true))
  | x :: l, i, h => by
    by_cases he : s = x
    · exact ⟨i, by simp [smap, mfind, he]⟩
    · obtain ⟨k, hk⟩ := smap_yes (l := l) (i := i + 1) (by simpa [he] using h)
      exact ⟨k, by simpa [smap, mfind, he] using hk⟩
theorem smap_snoc (l : List Str) (s : Str) : smap l ++ [(.str s, .bool true)] = smap (l ++ [s]) := by simp [smap]
theorem take_succ' {α : Type} {l : List α} {i : Nat} (h : i < l.length) : l.take (i + 1) = l.take i ++ [l[i]] := List.take_succ_eq_append_getElem h

/-! ### Columns -/

def names (l : List Decl) : List Str := l.map (·.name)

theorem names_succ {l : List Decl} {i : Nat} (h : i < l.length) : names (l.take (i + 1)) = names (l.take i) ++ [l[i].name] := by rw [take_succ' h]; simp only [names, List.map_append, List.map_cons, List.map_nil]

/-- The error of a column, after others. -/
def colErr (en : List Enum) (l : List Decl) (i : Nat) : Int :=
  match l[i]? with
  | some d => if !ident d.name then 6 else if (tyName en d.type).isNone then 10 else if 0 < d.clock.length then 11 else if d.name ∈ names (l.take i) then 7 else 0
  | none => 0

/-- The error of a cell of a type. -/
def cellErr (en : List Enum) (t : Int) (c : Cell) : Int :=
  if c.kind ≠ 1 ∧ c.v ≠ 0 ∨ c.kind ≠ 0 ∧ c.kind ≠ 1 ∧ c.kind ≠ 2 then 5 else if c.kind = 1 ∧ tyHas en t c.v = false then 14 else 0

def EnOK (en : List Enum) : Prop := True
/-- Columns as a machine holds them. -/
def ColsOK (l : List Decl) : Prop := Len l.length ∧ ∀ d ∈ l, I64 d.type
theorem ColsOK.at {l : List Decl} (h : ColsOK l) {i : Nat} (hi : i < l.length) : I64 l[i].type := h.2 _ (List.getElem_mem hi)

section
variable {L : Nat → Option PFunc} (hL : ∀ k f, Lc k = some f → L k = some f)
include hL

theorem trace_cell (en : List Enum) (t : Int) (ht : I64 t) (c : Cell) (o : Bool) (h : List PObj) : callL L 25 [.list o (en.map eEnum), .int .i64 t, eCell c] h = some (.int .i64 (cellErr en t c), h) := by
  refine callL_wp (hL 25 _ rfl) rfl ?_
  have hh := value_has hL en t c.v ht false []
  obtain ⟨k, v⟩ := c
  by_cases h1 : k = 1
  · subst h1
    cases hv : tyHas en t v <;> simp [f_trace_cell, cellErr, hh, hv]
  · by_cases hv : v = 0
    · subst hv
      by_cases h0 : k = 0
      · subst h0; simp [f_trace_cell, cellErr]
      · by_cases h2 : k = 2
        · subst h2; simp [f_trace_cell, cellErr]
        · simp [f_trace_cell, cellErr, h0, h1, h2]
    · simp [f_trace_cell, cellErr, h1, hv]

theorem trace_columns (en : List Enum) (l : List Decl) (hok : ColsOK l) (o o' : Bool) (h : List PObj) : ∃ h', callL L 24 [.list o (en.map eEnum), .list o' (l.map eDecl)] h = some (.int .i64 (firstErr l.length (colErr en l)), h') := by
  suffices H : ∃ r, callL L 24 [.list o (en.map eEnum), .list o' (l.map eDecl)] h = some r ∧ r.1 = .int .i64 (firstErr l.length (colErr en l)) by
    obtain ⟨⟨v, h'⟩, h1, h2⟩ := H
    exact ⟨h', by rw [h1]; simp at h2; rw [h2]⟩
  refine callL_wpP (hL 24 _ rfl) rfl ?_
  simp [f_trace_columns]
  refine loop_updG l.length (fun i => decide (colErr en l i = 0)) (fun i (x : PV × PV) => [(4, x.1), (5, x.2), (8, .int .i64 i)]) (fun i _ => i) (fun i _ => h ++ [.map (smap (names (l.take i)))]) (.dead, .dead) ?_ ?_ ?_ rfl rfl (by simp [names, smap])
  · intro i hi hz x ih
    have hw := wrap_succ i (by have := hok.1; omega)
    have hn := value_name hL en l[i].type (hok.at hi) false []
    simp only [colErr, List.getElem?_eq_getElem hi, decide_eq_true_eq] at hz
    by_cases e1 : ident l[i].name = true
    · rw [if_neg (by simp [e1])] at hz
      by_cases e2 : (tyName en l[i].type).isNone = true
      · rw [if_pos e2] at hz; simp at hz
      · rw [if_neg e2] at hz
        by_cases e3 : 0 < l[i].clock.length
        · rw [if_pos e3] at hz; simp at hz
        · rw [if_neg e3] at hz
          by_cases e4 : l[i].name ∈ names (l.take i)
          · rw [if_pos e4] at hz; simp at hz
          · have e2' : (tyName en l[i].type).isSome = true := by cases hx : tyName en l[i].type <;> simp_all
            have e3' : l[i].clock = [] := List.eq_nil_of_length_eq_zero (by omega)
            have hm := smap_no (i := 0) e4
            have hs : smap (names (l.take i)) ++ [(.str l[i].name, .bool true)] = smap (names (l.take (i + 1))) := by rw [smap_snoc, names_succ hi]
            simp [hi, hn, lex_ident hL, e1, e2', e3', hm, hs, hw]
            simpa using ih (_, _)
    · rw [if_pos (by simpa using e1)] at hz; simp at hz
  · intro i hi hz hk x
    have hf := firstErr_at (err := colErr en l) hi (by simpa using hz) (fun k hk' => by simpa using hk k hk')
    have hn := value_name hL en l[i].type (hok.at hi) false []
    rw [hf]
    simp only [colErr, List.getElem?_eq_getElem hi, decide_eq_false_iff_not] at hz ⊢
    by_cases e1 : ident l[i].name = true
    · rw [if_neg (by simp [e1])] at hz ⊢
      by_cases e2 : (tyName en l[i].type).isNone = true
      · have e2' : (tyName en l[i].type).isSome = false := by simpa using e2
        simp [hi, hn, lex_ident hL, e1, e2, e2', endP]
      · rw [if_neg e2] at hz ⊢
        have e2' : (tyName en l[i].type).isSome = true := by cases hx : tyName en l[i].type <;> simp_all
        by_cases e3 : 0 < l[i].clock.length
        · simp [hi, hn, lex_ident hL, e1, e2', e3, endP]
        · rw [if_neg e3] at hz ⊢
          by_cases e4 : l[i].name ∈ names (l.take i)
          · have e3' : l[i].clock = [] := List.eq_nil_of_length_eq_zero (by omega)
            obtain ⟨k, hm⟩ := smap_yes (i := 0) e4
            simp [hi, hn, lex_ident hL, e1, e2', e3', e4, hm, endP]
          · rw [if_neg e4] at hz; simp at hz
    · have e1' : ident l[i].name = false := by simpa using e1
      simp [hi, hn, lex_ident hL, e1', endP]
  · intro hz x
    have hf := firstErr_no (err := colErr en l) (n := l.length) (fun k hk => by simpa using hz k hk)
    simp [hf, endP]
end
end PI.Tr
