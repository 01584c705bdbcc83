import Derived.Test.YtegahghjancjpaaGreatDoorPiTrData
import Derived.Test.YtegahghjancjpaaGreatDoorPiTrCode
set_option maxRecDepth 100000
set_option linter.unusedSimpArgs false
set_option linter.unusedVariables false
namespace PI.Tr
open Go (IntKind BinOp UnOp)
section
variable {L : Nat → Option PFunc} (hL : ∀ k f, Lc k = some f → L k = some f)
include hL
def letter (b : Int) : Bool := decide (97 ≤ b ∧ b ≤ 122 ∨ 65 ≤ b ∧ b ≤ 90)
def digit (b : Int) : Bool := decide (48 ≤ b ∧ b ≤ 57)
def inner (b : Int) : Bool := letter b || digit b || decide (b = 95)
theorem lex_letter (b : Int) (h : List PObj) : callL L 48 [.int .u8 b] h = some (.bool (letter b), h) := by
  refine callL_wp (hL 48 _ rfl) rfl ?_
  by_cases h1 : 97 ≤ b <;> by_cases h2 : b ≤ 122 <;> by_cases h3 : 65 ≤ b <;> by_cases h4 : b ≤ 90 <;>
    simp [f_lex_letter, letter, h1, h2, h3, h4] <;> omega
theorem lex_digit (b : Int) (h : List PObj) : callL L 58 [.int .u8 b] h = some (.bool (digit b), h) := by
  refine callL_wp (hL 58 _ rfl) rfl ?_
  by_cases h1 : 48 ≤ b <;> by_cases h2 : b ≤ 57 <;> simp [f_lex_digit, digit, h1, h2]
theorem lex_inner (b : Int) (h : List PObj) : callL L 50 [.int .u8 b] h = some (.bool (inner b), h) := by
  refine callL_wp (hL 50 _ rfl) rfl ?_
  by_cases h3 : b = 95
  · subst h3
    cases h1 : letter 95 <;> cases h2 : digit 95 <;> simp [f_lex_inner, lex_letter hL, lex_digit hL, inner, h1, h2]
  · cases h1 : letter b <;> cases h2 : digit b <;> simp [f_lex_inner, lex_letter hL, lex_digit hL, inner, h1, h2, h3]
def keywords : List Str := [[97, 115, 115, 117, 109, 101], [97, 110, 100], [97, 117, 116, 111, 109, 97, 116, 111, 110], [98, 111, 111, 108], [99, 111, 110, 116, 105, 110, 117, 101], [100, 111], [100, 111, 110, 101], [101, 108, 115, 101], [101, 110, 100], [101, 110, 115, 117, 114, 101], [101, 118, 101, 114, 121], [102, 97, 108, 115, 101], [102, 98, 121], [105, 102], [105, 110, 116], [108, 101, 116], [109, 101, 114, 103, 101], [109, 111, 100], [110, 111, 100, 101], [110, 111, 116], [111, 114], [112, 114, 101], [114, 101, 116, 117, 114, 110, 115], [115, 116, 97, 116, 101], [116, 101, 108], [116, 104, 101, 110], [116, 114, 117, 101], [116, 121, 112, 101], [117, 110, 108, 101, 115, 115], [117, 110, 116, 105, 108], [118, 97, 114], [119, 104, 101, 110], [120, 111, 114]]
def keyword (s : Str) : Bool := decide (s ∈ keywords)
theorem lex_keyword (s : Str) (h : List PObj) : callL L 49 [.str s] h = some (.bool (keyword s), h) := by
  refine callL_wp (hL 49 _ rfl) rfl ?_
  simp [f_lex_Keyword]
  repeat' split
  all_goals simp_all [keyword, keywords]
end
theorem list_eq {α : Type} {a b : List α} (hl : a.length = b.length) (h : ∀ k, k < a.length → a[k]? = b[k]?) : a = b := by
  apply List.ext_getElem?
  intro k
  by_cases hk : k < a.length
  · exact h k hk
  · rw [List.getElem?_eq_none (by omega), List.getElem?_eq_none (by omega)]
theorem all_of {α : Type} {l : List α} {p : α → Bool} (h : ∀ k (hk : k < l.length), p l[k] = true) : l.all p = true := by
  rw [List.all_eq_true]
  intro x hx
  obtain ⟨k, hk, rfl⟩ := List.mem_iff_getElem.1 hx
  exact h k hk
theorem all_not {α : Type} {l : List α} {p : α → Bool} {i : Nat} (hi : i < l.length) (h : p l[i] = false) : l.all p = false := by
  rw [Bool.eq_false_iff]
  intro e
  have := List.all_eq_true.1 e _ (List.getElem_mem hi)
  rw [h] at this; simp at this
section
variable {L : Nat → Option PFunc} (hL : ∀ k f, Lc k = some f → L k = some f)
include hL
def ident (s : Str) : Bool := decide (s ≠ [] ∧ s.length ≤ 40) && letter (s.headD 0).toNat && s.all (fun b => inner b.toNat) && !keyword s
theorem lex_ident (s : Str) (h : List PObj) : callL L 37 [.str s] h = some (.bool (ident s), h) := by
  refine callL_wp (hL 37 _ rfl) rfl ?_
  cases s with
  | nil => simp [f_lex_Ident, ident]
  | cons c r =>
    by_cases hlen : (c :: r).length ≤ 40
    · have hlen2 : ¬ (40 : Int) < (r.length : Int) + 1 := by simp at hlen; omega
      cases hc : letter c.toNat with
      | false => simp [f_lex_Ident, ident, hlen2, lex_letter hL, hc]
      | true =>
        cases hk : keyword (c :: r) with
        | true => simp [f_lex_Ident, ident, hlen2, lex_letter hL, lex_keyword hL, hc, hk]
        | false =>
          have hid : ident (c :: r) = (c :: r).all (fun b => inner b.toNat) := by
            simp [ident, hc, hk]; omega
          simp [f_lex_Ident, hlen2, lex_letter hL, lex_keyword hL, hc, hk]
          generalize hs : c :: r = s at *
          have hsl : (r.length : Int) + 1 = (s.length : Int) := by rw [← hs]; simp
          rw [hsl]
          refine loop_upd s.length (fun i => inner (s.getD i 0).toNat) (fun i (x : PV) => [(2, x), (4, .int .i64 i)]) (fun _ _ => h) .dead ?_ ?_ ?_ rfl rfl
          · intro i hi hok x ih
            have hw := wrap_succ i (by omega)
            simp [hi, List.getD] at hok
            simp [hi, hw, lex_inner hL, hok]
            simpa using ih _
          · intro i hi hok hk x
            have hx := all_not (p := fun b : UInt8 => inner b.toNat) hi (by simpa [hi, List.getD] using hok)
            simp [hi, List.getD] at hok
            simp [hi, lex_inner hL, hok, hid, hx]
          · intro hok x
            have hx : s.all (fun b => inner b.toNat) = true := all_of (fun k hk => by have := hok k hk; simpa [hk, List.getD] using this)
            simp [hid, hx]
    · have hlen2 : (40 : Int) < (r.length : Int) + 1 := by simp at hlen; omega
      simp [f_lex_Ident, ident, hlen2]
      omega
end
end PI.Tr
set_option maxRecDepth 100000
set_option linter.unusedSimpArgs false
set_option linter.unusedVariables false
namespace PI.Tr
open Go (IntKind BinOp UnOp)
abbrev I64 (n : Int) : Prop := -9223372036854775808 ≤ n ∧ n ≤ 9223372036854775807
@[simp] theorem zeroEnum : PV.agg [.str [], .list false []] = eEnum ⟨[], []⟩ := rfl
def enumAt (en : List Enum) (t : Int) : Option Enum := if 3 ≤ t then en[(t - 3).toNat]? else none
theorem enumAt_lt {en : List Enum} {t : Int} (h : t < 3) : enumAt en t = none := by unfold enumAt; rw [if_neg (by omega)]
theorem enumAt_in {en : List Enum} {k : Nat} (h : k < en.length) : enumAt en (k + 3) = some en[k] := by unfold enumAt; rw [if_pos (by omega)]; simp [show (k : Int) + 3 - 3 = k by omega, h]
theorem enumAt_out {en : List Enum} {k : Nat} (h : en.length ≤ k) : enumAt en (k + 3) = none := by unfold enumAt; rw [if_pos (by omega)]; simp [show (k : Int) + 3 - 3 = k by omega, h]
theorem ty_cases (t : Int) : t < 3 ∨ ∃ k : Nat, t = k + 3 := by
  by_cases h : t < 3
  · exact .inl h
  · exact .inr ⟨(t - 3).toNat, by omega⟩
section
variable {L : Nat → Option PFunc} (hL : ∀ k f, Lc k = some f → L k = some f)
include hL
theorem value_enum (en : List Enum) (t : Int) (ht : I64 t) (o : Bool) (h : List PObj) : callL L 33 [.list o (en.map eEnum), .int .i64 t] h = some (.tuple [eEnum ((enumAt en t).getD ⟨[], []⟩), .bool (enumAt en t).isSome], h) := by
  refine callL_wp (hL 33 _ rfl) rfl ?_
  rcases ty_cases t with h3 | ⟨k, rfl⟩
  · simp [f_value_enum, h3, enumAt_lt h3]
  · have hw : IntKind.i64.wrap (k : Int) = k := by rw [wrap_i64] <;> omega
    have h3 : ¬ (k : Int) + 3 < 3 := by omega
    by_cases hk : k < en.length
    · have hk2 : ¬ (en.length : Int) ≤ k := by omega
      simp [f_value_enum, h3, hw, hk2, hk, enumAt_in hk]
    · have hk2 : (en.length : Int) ≤ k := by omega
      simp [f_value_enum, h3, hw, hk2, enumAt_out (show en.length ≤ k by omega)]
def tyName (en : List Enum) (t : Int) : Option Str := if t = 1 then some [98, 111, 111, 108] else if t = 2 then some [105, 110, 116] else (enumAt en t).map (·.name)
theorem value_name (en : List Enum) (t : Int) (ht : I64 t) (o : Bool) (h : List PObj) : callL L 20 [.list o (en.map eEnum), .int .i64 t] h = some (.tuple [.str ((tyName en t).getD []), .bool (tyName en t).isSome], h) := by
  refine callL_wp (hL 20 _ rfl) rfl ?_
  by_cases h1 : t = 1
  · subst h1; simp [f_value_Name, tyName]
  · by_cases h2 : t = 2
    · subst h2; simp [f_value_Name, tyName]
    · have := value_enum hL en t ht false []
      cases he : enumAt en t <;> simp [f_value_Name, tyName, h1, h2, this, he]
theorem value_valid (en : List Enum) (t : Int) (ht : I64 t) (o : Bool) (h : List PObj) : callL L 45 [.list o (en.map eEnum), .int .i64 t] h = some (.bool (tyName en t).isSome, h) := by
  refine callL_wp (hL 45 _ rfl) rfl ?_
  simp [f_value_valid, value_name hL en t ht false []]
def tySize (en : List Enum) (t : Int) : Nat := if t = 1 then 2 else if t = 2 then 65536 else ((enumAt en t).map (·.tags.length)).getD 0
theorem value_size (en : List Enum) (t : Int) (ht : I64 t) (o : Bool) (h : List PObj) : callL L 52 [.list o (en.map eEnum), .int .i64 t] h = some (.int .i64 (tySize en t), h) := by
  refine callL_wp (hL 52 _ rfl) rfl ?_
  by_cases h1 : t = 1
  · subst h1; simp [f_value_Size, tySize]
  · by_cases h2 : t = 2
    · subst h2; simp [f_value_Size, tySize]
    · have := value_enum hL en t ht false []
      cases he : enumAt en t <;> simp [f_value_Size, tySize, h1, h2, this, he]
theorem word_in (v : Int) (h : List PObj) : callL L 51 [.int .i64 v] h = some (.bool (decide (-32768 ≤ v ∧ v ≤ 32767)), h) := by
  refine callL_wp (hL 51 _ rfl) rfl ?_
  by_cases h1 : -32768 ≤ v <;> by_cases h2 : v ≤ 32767 <;> simp [f_word_In, h1, h2]
def tyHas (en : List Enum) (t v : Int) : Bool := if t = 2 then decide (-32768 ≤ v ∧ v ≤ 32767) else decide (0 ≤ v ∧ v < tySize en t)
theorem value_has (en : List Enum) (t v : Int) (ht : I64 t) (o : Bool) (h : List PObj) : callL L 38 [.list o (en.map eEnum), .int .i64 t, .int .i64 v] h = some (.bool (tyHas en t v), h) := by
  refine callL_wp (hL 38 _ rfl) rfl ?_
  by_cases h2 : t = 2
  · subst h2; simp [f_value_Has, tyHas, word_in hL]
  · by_cases h0 : 0 ≤ v
    · simp [f_value_Has, tyHas, h2, h0, value_size hL en t ht false []]
    · simp [f_value_Has, tyHas, h2, h0]
end
end PI.Tr
set_option maxRecDepth 100000
set_option linter.unusedSimpArgs false
set_option linter.unusedVariables false
namespace PI.Tr
open Go (IntKind BinOp UnOp)
def firstErr (n : Nat) (err : Nat → Int) : Int := (((List.range n).find? fun i => err i ≠ 0).map err).getD 0
theorem firstErr_at {n i : Nat} {err : Nat → Int} (hi : i < n) (h : err i ≠ 0) (hk : ∀ k, k < i → err k = 0) : firstErr n err = err i := by
  unfold firstErr
  have : (List.range n).find? (fun i => decide (err i ≠ 0)) = some i := by
    rw [List.find?_eq_some_iff_getElem]
    refine ⟨by simpa using h, i, by simpa using hi, by simp, ?_⟩
    intro j hj
    simpa using hk j hj
  rw [this]; rfl
theorem firstErr_no {n : Nat} {err : Nat → Int} (hk : ∀ k, k < n → err k = 0) : firstErr n err = 0 := by
  unfold firstErr
  have : (List.range n).find? (fun i => decide (err i ≠ 0)) = none := by
    rw [List.find?_eq_none]
    intro x hx
    simpa using hk x (by simpa using hx)
  rw [this]; rfl
def smap (l : List Str) : List (PV × PV) := l.map fun s => (PV.str s, PV.bool true)
theorem smap_no {s : Str} : ∀ {l : List Str} {i : Nat}, s ∉ l → mfind false [.s] (.str s) (smap l) i = some none
  | [], _, _ => rfl
  | x :: l, i, h => by
    simp only [List.mem_cons, not_or] at h
    have : ¬ s = x := h.1
    simp [smap, mfind, this]
    exact smap_no h.2
theorem smap_yes {s : Str} : ∀ {l : List Str} {i : Nat}, s ∈ l → ∃ k, mfind false [.s] (.str s) (smap l) i = some (some (k, .bool true))
  | x :: l, i, h => by
    by_cases he : s = x
    · exact ⟨i, by simp [smap, mfind, he]⟩
    · obtain ⟨k, hk⟩ := smap_yes (l := l) (i := i + 1) (by simpa [he] using h)
      exact ⟨k, by simpa [smap, mfind, he] using hk⟩
theorem smap_snoc (l : List Str) (s : Str) : smap l ++ [(.str s, .bool true)] = smap (l ++ [s]) := by simp [smap]
theorem take_succ' {α : Type} {l : List α} {i : Nat} (h : i < l.length) : l.take (i + 1) = l.take i ++ [l[i]] := List.take_succ_eq_append_getElem h
def names (l : List Decl) : List Str := l.map (·.name)
theorem names_succ {l : List Decl} {i : Nat} (h : i < l.length) : names (l.take (i + 1)) = names (l.take i) ++ [l[i].name] := by rw [take_succ' h]; simp only [names, List.map_append, List.map_cons, List.map_nil]
def colErr (en : List Enum) (l : List Decl) (i : Nat) : Int :=
  match l[i]? with
  | some d => if !ident d.name then 6 else if (tyName en d.type).isNone then 10 else if 0 < d.clock.length then 11 else if d.name ∈ names (l.take i) then 7 else 0
  | none => 0
def cellErr (en : List Enum) (t : Int) (c : Cell) : Int :=
  if c.kind ≠ 1 ∧ c.v ≠ 0 ∨ c.kind ≠ 0 ∧ c.kind ≠ 1 ∧ c.kind ≠ 2 then 5 else if c.kind = 1 ∧ tyHas en t c.v = false then 14 else 0
def ColsOK (l : List Decl) : Prop := Len l.length ∧ ∀ d ∈ l, I64 d.type
theorem ColsOK.at {l : List Decl} (h : ColsOK l) {i : Nat} (hi : i < l.length) : I64 l[i].type := h.2 _ (List.getElem_mem hi)
section
variable {L : Nat → Option PFunc} (hL : ∀ k f, Lc k = some f → L k = some f)
include hL
theorem trace_cell (en : List Enum) (t : Int) (ht : I64 t) (c : Cell) (o : Bool) (h : List PObj) : callL L 25 [.list o (en.map eEnum), .int .i64 t, eCell c] h = some (.int .i64 (cellErr en t c), h) := by
  refine callL_wp (hL 25 _ rfl) rfl ?_
  have hh := value_has hL en t c.v ht false []
  obtain ⟨k, v⟩ := c
  by_cases h1 : k = 1
  · subst h1
    cases hv : tyHas en t v <;> simp [f_trace_cell, cellErr, hh, hv]
  · by_cases hv : v = 0
    · subst hv
      by_cases h0 : k = 0
      · subst h0; simp [f_trace_cell, cellErr]
      · by_cases h2 : k = 2
        · subst h2; simp [f_trace_cell, cellErr]
        · simp [f_trace_cell, cellErr, h0, h1, h2]
    · simp [f_trace_cell, cellErr, h1, hv]
theorem trace_columns (en : List Enum) (l : List Decl) (hok : ColsOK l) (o o' : Bool) (h : List PObj) : ∃ h', callL L 24 [.list o (en.map eEnum), .list o' (l.map eDecl)] h = some (.int .i64 (firstErr l.length (colErr en l)), h') := by
  suffices H : ∃ r, callL L 24 [.list o (en.map eEnum), .list o' (l.map eDecl)] h = some r ∧ r.1 = .int .i64 (firstErr l.length (colErr en l)) by
    obtain ⟨⟨v, h'⟩, h1, h2⟩ := H
    exact ⟨h', by rw [h1]; simp at h2; rw [h2]⟩
  refine callL_wpP (hL 24 _ rfl) rfl ?_
  simp [f_trace_columns]
  refine loop_updG l.length (fun i => decide (colErr en l i = 0)) (fun i (x : PV × PV) => [(4, x.1), (5, x.2), (8, .int .i64 i)]) (fun i _ => i) (fun i _ => h ++ [.map (smap (names (l.take i)))]) (.dead, .dead) ?_ ?_ ?_ rfl rfl (by simp [names, smap])
  · intro i hi hz x ih
    have hw := wrap_succ i (by have := hok.1; omega)
    have hn := value_name hL en l[i].type (hok.at hi) false []
    simp only [colErr, List.getElem?_eq_getElem hi, decide_eq_true_eq] at hz
    by_cases e1 : ident l[i].name = true
    · rw [if_neg (by simp [e1])] at hz
      by_cases e2 : (tyName en l[i].type).isNone = true
      · rw [if_pos e2] at hz; simp at hz
      · rw [if_neg e2] at hz
        by_cases e3 : 0 < l[i].clock.length
        · rw [if_pos e3] at hz; simp at hz
        · rw [if_neg e3] at hz
          by_cases e4 : l[i].name ∈ names (l.take i)
          · rw [if_pos e4] at hz; simp at hz
          · have e2' : (tyName en l[i].type).isSome = true := by cases hx : tyName en l[i].type <;> simp_all
            have e3' : l[i].clock = [] := List.eq_nil_of_length_eq_zero (by omega)
            have hm := smap_no (i := 0) e4
            have hs : smap (names (l.take i)) ++ [(.str l[i].name, .bool true)] = smap (names (l.take (i + 1))) := by rw [smap_snoc, names_succ hi]
            simp [hi, hn, lex_ident hL, e1, e2', e3', hm, hs, hw]
            simpa using ih (_, _)
    · rw [if_pos (by simpa using e1)] at hz; simp at hz
  · intro i hi hz hk x
    have hf := firstErr_at (err := colErr en l) hi (by simpa using hz) (fun k hk' => by simpa using hk k hk')
    have hn := value_name hL en l[i].type (hok.at hi) false []
    rw [hf]
    simp only [colErr, List.getElem?_eq_getElem hi, decide_eq_false_iff_not] at hz ⊢
    by_cases e1 : ident l[i].name = true
    · rw [if_neg (by simp [e1])] at hz ⊢
      by_cases e2 : (tyName en l[i].type).isNone = true
      · have e2' : (tyName en l[i].type).isSome = false := by simpa using e2
        simp [hi, hn, lex_ident hL, e1, e2, e2', endP]
      · rw [if_neg e2] at hz ⊢
        have e2' : (tyName en l[i].type).isSome = true := by cases hx : tyName en l[i].type <;> simp_all
        by_cases e3 : 0 < l[i].clock.length
        · simp [hi, hn, lex_ident hL, e1, e2', e3, endP]
        · rw [if_neg e3] at hz ⊢
          by_cases e4 : l[i].name ∈ names (l.take i)
          · have e3' : l[i].clock = [] := List.eq_nil_of_length_eq_zero (by omega)
            obtain ⟨k, hm⟩ := smap_yes (i := 0) e4
            simp [hi, hn, lex_ident hL, e1, e2', e3', e4, hm, endP]
          · rw [if_neg e4] at hz; simp at hz
    · have e1' : ident l[i].name = false := by simpa using e1
      simp [hi, hn, lex_ident hL, e1', endP]
  · intro hz x
    have hf := firstErr_no (err := colErr en l) (n := l.length) (fun k hk => by simpa using hz k hk)
    simp [hf, endP]
end
end PI.Tr
set_option maxRecDepth 100000
set_option linter.unusedSimpArgs false
set_option linter.unusedVariables false
namespace PI.Tr
open Go (IntKind BinOp UnOp)
theorem firstErr_zero {n : Nat} {err : Nat → Int} (h : firstErr n err = 0) : ∀ k, k < n → err k = 0 := by
  intro k hk
  unfold firstErr at h
  cases hf : (List.range n).find? (fun i => decide (err i ≠ 0)) with
  | none =>
    rw [List.find?_eq_none] at hf
    simpa using hf k (by simpa using hk)
  | some i =>
    rw [hf] at h
    have := List.find?_some hf
    simp at this h
    exact absurd h this
def zeroCell : Cell := ⟨0, 0⟩
def rowErr (en : List Enum) (cols : List Decl) (r : Row) : Int :=
  if r.length ≠ cols.length then 9 else firstErr r.length (fun i => cellErr en (cols.getD i default).type (r.getD i default))
def checkErr (en : List Enum) (t : Trace) : Int :=
  if 4096 < t.rows.length ∨ 384 < t.cols.length then 3
  else if firstErr t.cols.length (colErr en t.cols) ≠ 0 then firstErr t.cols.length (colErr en t.cols)
  else firstErr t.rows.length (fun r => rowErr en t.cols (t.rows.getD r []))
structure TrOK (t : Trace) : Prop where
  cols : ColsOK t.cols
  rows : Len t.rows.length
  row : ∀ r ∈ t.rows, Len r.length
  cell : ∀ r ∈ t.rows, ∀ c ∈ r, I64 c.v
section
variable {L : Nat → Option PFunc} (hL : ∀ k f, Lc k = some f → L k = some f)
include hL
theorem check_row (en : List Enum) (cols : List Decl) (hok : ColsOK cols) (row : Row) (hlen : row.length = cols.length) (R C : PV) (n r g : Nat) (h : List PObj) (x6 x7 x8 : PV) {Q : PExit → St → Prop}
    (h0 : rowErr en cols row = 0 → ∀ y6 y7 y8 y14 g', Q (.exit 2) ⟨[.list false (en.map eEnum), C, .loc 0 [.list false (cols.map eDecl), R], .int .i64 0, .int .i64 0, .list false (row.map eCell), y6, y7, y8, R, .int .i64 n, .int .i64 r, .list false (row.map eCell), .int .i64 row.length, y14], [], g', h⟩)
    (h1 : rowErr en cols row ≠ 0 → ∀ y6 y7 y8 y14 g', Q .ret ⟨[.list false (en.map eEnum), C, .loc 0 [.list false (cols.map eDecl), R], .int .i64 (rowErr en cols row), .int .i64 0, .list false (row.map eCell), y6, y7, y8, R, .int .i64 n, .int .i64 r, .list false (row.map eCell), .int .i64 row.length, y14], [], g', h⟩) :
    wpL L f_trace_Check_l0 ⟨[.list false (en.map eEnum), C, .loc 0 [.list false (cols.map eDecl), R], .int .i64 0, .int .i64 0, .list false (row.map eCell), x6, x7, x8, R, .int .i64 n, .int .i64 r, .list false (row.map eCell), .int .i64 row.length, .int .i64 0], [], g, h⟩ Q := by
  have hr : rowErr en cols row = firstErr row.length (fun i => cellErr en (cols.getD i default).type (row.getD i default)) := if_neg (by simpa using hlen)
  refine loop_updG row.length (fun i => decide (cellErr en (cols.getD i default).type (row.getD i default) = 0)) (fun i (x : PV × PV × PV × Nat) => [(6, x.1), (7, x.2.1), (8, x.2.2.1), (14, .int .i64 i)]) (fun _ x => x.2.2.2) (fun _ _ => h) (x6, x7, x8, g) ?_ ?_ ?_ rfl rfl rfl
  · intro i hi hz x ih
    have hw := wrap_succ i (by have := hok.1; omega)
    have hi' : i < cols.length := by omega
    simp only [List.getD, List.getElem?_eq_getElem hi, List.getElem?_eq_getElem hi', Option.getD_some, decide_eq_true_eq] at hz
    have hc := trace_cell hL en cols[i].type (hok.at hi') row[i] false []
    simp [hi, hi', hc, hz, hw]
    simpa using ih (_, _, _, _)
  · intro i hi hz hk x
    have hi' : i < cols.length := by omega
    have hf := firstErr_at (err := fun i => cellErr en (cols.getD i default).type (row.getD i default)) hi (by simpa using hz) (fun k hk' => by simpa using hk k hk')
    simp only [List.getD, List.getElem?_eq_getElem hi, List.getElem?_eq_getElem hi', Option.getD_some, decide_eq_false_iff_not] at hz hf
    rw [hr] at h1
    simp only [List.getD] at h1
    rw [hf] at h1
    have hc := trace_cell hL en cols[i].type (hok.at hi') row[i] false []
    simp [hi, hi', hc, hz]
    exact h1 hz _ _ _ _ _
  · intro hz x
    have hf := firstErr_no (err := fun i => cellErr en (cols.getD i default).type (row.getD i default)) (n := row.length) (fun k hk => by simpa using hz k hk)
    simp
    exact h0 (hr.trans hf) _ _ _ _ _
theorem trace_check (en : List Enum) (t : Trace) (hok : TrOK t) (o : Bool) (h : List PObj) : ∃ h', callL L 7 [.list o (en.map eEnum), eTrace t] h = some (.int .i64 (checkErr en t), h') := by
  suffices H : ∃ r, callL L 7 [.list o (en.map eEnum), eTrace t] h = some r ∧ r.1 = .int .i64 (checkErr en t) by
    obtain ⟨⟨v, h'⟩, h1, h2⟩ := H
    exact ⟨h', by rw [h1]; simp at h2; rw [h2]⟩
  refine callL_wpP (hL 7 _ rfl) rfl ?_
  obtain ⟨h', hcols⟩ := trace_columns hL en t.cols hok.cols false false []
  unfold checkErr
  by_cases h1 : 4096 < t.rows.length
  · have h1' : (4096 : Int) < t.rows.length := by omega
    simp [f_trace_Check, h1, h1', endP]
  · have h1' : ¬ (4096 : Int) < t.rows.length := by omega
    by_cases h2 : 384 < t.cols.length
    · have h2' : (384 : Int) < t.cols.length := by omega
      simp [f_trace_Check, h1, h1', h2, h2', endP]
    · have h2' : ¬ (384 : Int) < t.cols.length := by omega
      rw [if_neg (by simp [h1, h2])]
      by_cases h3 : firstErr t.cols.length (colErr en t.cols) = 0
      · rw [if_neg (by simpa using h3)]
        generalize hE : firstErr t.rows.length (fun r => rowErr en t.cols (t.rows.getD r [])) = E
        simp [f_trace_Check, h1', h2', hcols, h3]
        refine loop_updG t.rows.length (fun r => decide (rowErr en t.cols (t.rows.getD r []) = 0)) (fun r (x : (PV × PV × PV × PV) × (PV × PV × PV) × Nat) => [(5, x.1.1), (6, x.1.2.1), (7, x.1.2.2.1), (8, x.1.2.2.2), (11, .int .i64 r), (12, x.2.1.1), (13, x.2.1.2.1), (14, x.2.1.2.2)]) (fun _ x => x.2.2) (fun _ _ => h) ((.dead, .dead, .dead, .dead), (.dead, .dead, .dead), 1) ?_ ?_ ?_ rfl rfl rfl
        · intro r hr hz x ih
          have hw := wrap_succ r (by omega)
          simp only [List.getD, List.getElem?_eq_getElem hr, Option.getD_some, decide_eq_true_eq] at hz
          have hlen : t.rows[r].length = t.cols.length := by
            unfold rowErr at hz
            by_cases hl : t.rows[r].length = t.cols.length
            · exact hl
            · rw [if_pos hl] at hz; simp at hz
          have hlen' : ((t.rows[r].length : Nat) : Int) = t.cols.length := by omega
          simp [hr, eRow, hlen']
          rw [← hlen']
          refine check_row hL en t.cols hok.cols t.rows[r] hlen _ _ _ _ _ _ _ _ _ ?_ (fun hne => absurd hz hne)
          intro _ y6 y7 y8 y14 g'
          simp [hw]
          simpa using ih ((_, _, _, _), (_, _, _), _)
        · intro r hr hz hk x
          have hf := firstErr_at (err := fun r => rowErr en t.cols (t.rows.getD r [])) hr (by simpa using hz) (fun k hk' => by simpa using hk k hk')
          rw [hE] at hf
          simp only [List.getD, List.getElem?_eq_getElem hr, Option.getD_some, decide_eq_false_iff_not] at hz hf
          rw [hf]
          by_cases hlen : t.rows[r].length = t.cols.length
          · have hlen' : ((t.rows[r].length : Nat) : Int) = t.cols.length := by omega
            simp [hr, eRow, hlen']
            rw [← hlen']
            refine check_row hL en t.cols hok.cols t.rows[r] hlen _ _ _ _ _ _ _ _ _ (fun he => absurd he hz) ?_
            intro _ y6 y7 y8 y14 g'
            simp [endP]
          · have hlen' : ¬ ((t.rows[r].length : Nat) : Int) = t.cols.length := by omega
            have he : rowErr en t.cols t.rows[r] = 9 := if_pos hlen
            simp [hr, eRow, hlen', he, endP]
        · intro hz x
          have hf := firstErr_no (err := fun r => rowErr en t.cols (t.rows.getD r [])) (n := t.rows.length) (fun k hk => by simpa using hz k hk)
          rw [hE] at hf
          rw [hf]
          simp [endP]
      · rw [if_pos h3]
        simp [f_trace_Check, h1', h2', hcols, h3, endP]
theorem strconv_itoa (n : Int) (hn : I64 n) (h : List PObj) : callL L 47 [.int .i64 n] h = some (.str (Go.Lib.itoa n), h) := by
  rw [callL_prim (hL 47 _ rfl) rfl rfl]
  simp [pItoa, hn.1, hn.2]
def boolText (b : Bool) : Str := if b then [116, 114, 117, 101] else [102, 97, 108, 115, 101]
theorem format_bool (b : Bool) (h : List PObj) : callL L 46 [.bool b] h = some (.str (boolText b), h) := by
  have h1 : callL L 57 [.bool b] [] = some (.str (boolText b), []) := by
    refine callL_wp (hL 57 _ rfl) rfl ?_
    cases b <;> simp [f_internal_strconv_FormatBool, boolText]
  refine callL_wp (hL 46 _ rfl) rfl ?_
  simp [f_strconv_FormatBool, h1]
def valText (en : List Enum) (t v : Int) : Str × Int :=
  if (tyName en t).isNone then ([], 10) else if tyHas en t v = false then ([], 14) else if t = 1 then (boolText (v == 1), 0) else if t = 2 then (Go.Lib.itoa v, 0)
  else (((enumAt en t).bind fun u => u.tags[v.toNat]?).getD [], 0)
theorem value_text (en : List Enum) (t v : Int) (ht : I64 t) (hv : I64 v) (o : Bool) (h : List PObj) : callL L 36 [.list o (en.map eEnum), .int .i64 t, .int .i64 v] h = some (.tuple [.str (valText en t v).1, .int .i64 (valText en t v).2], h) := by
  refine callL_wp (hL 36 _ rfl) rfl ?_
  have h1 := value_valid hL en t ht false []
  have h2 := value_has hL en t v ht false []
  unfold valText
  cases hn : tyName en t with
  | none => simp [f_value_Text, h1, hn]
  | some nm =>
    cases hh : tyHas en t v with
    | false => simp [f_value_Text, h1, h2, hn, hh]
    | true =>
      by_cases e1 : t = 1
      · subst e1; simp [f_value_Text, h1, h2, hn, hh, format_bool hL]
      · by_cases e2 : t = 2
        · subst e2; simp [f_value_Text, h1, h2, hn, hh, strconv_itoa hL v hv]
        · rcases ty_cases t with h3 | ⟨k, rfl⟩
          · simp [tyName, e1, e2, enumAt_lt h3] at hn
          · have hw : IntKind.i64.wrap (k : Int) = k := by rw [wrap_i64] <;> omega
            by_cases hk : k < en.length
            · have he := enumAt_in hk
              simp [tyHas, tySize, e1, e2, he] at hh
              obtain ⟨m, rfl⟩ : ∃ m : Nat, v = m := ⟨v.toNat, by omega⟩
              have hm : m < en[k].tags.length := by omega
              simp [f_value_Text, h1, h2, hn, tyHas, tySize, hh, e1, e2, he, hw, hk, hm]
            · have he := enumAt_out (en := en) (k := k) (by omega)
              simp [tyName, e1, e2, he] at hn
def cellWord (en : List Enum) (t : Int) (c : Cell) : Str := if c.kind = 0 then [45] else if c.kind = 2 then [63] else (valText en t c.v).1
theorem trace_word (en : List Enum) (t : Int) (c : Cell) (ht : I64 t) (hc : I64 c.v) (o : Bool) (h : List PObj) : callL L 22 [.list o (en.map eEnum), .int .i64 t, eCell c] h = some (.str (cellWord en t c), h) := by
  refine callL_wp (hL 22 _ rfl) rfl ?_
  have h1 := value_text hL en t c.v ht hc false []
  obtain ⟨k, v⟩ := c
  by_cases h0 : k = 0
  · subst h0; simp [f_trace_word, cellWord]
  · by_cases h2 : k = 2
    · subst h2; simp [f_trace_word, cellWord]
    · simp [f_trace_word, cellWord, h0, h2, h1]
end
end PI.Tr
