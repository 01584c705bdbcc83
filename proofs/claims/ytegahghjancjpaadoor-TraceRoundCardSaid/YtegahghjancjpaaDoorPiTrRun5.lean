/-
  What the functions of traces come to: types by name, values of texts, cutting, words.
-/
import Derived.Test.YtegahghjancjpaaDoorPiTrRun4
import Derived.Test.YtegahghjancjpaaDoorPiTrSplit
set_option maxRecDepth 100000
set_option linter.unusedSimpArgs false
set_option linter.unusedVariables false
namespace PI.Tr
open Go (IntKind BinOp UnOp)

/-- Enumerations as a machine holds them. -/
structure EOK (en : List Enum) : Prop where
  len : en.length ≤ 140737488355328
  tags : ∀ u ∈ en, Len u.tags.length

/-- The type with a name. -/
def typeOf (en : List Enum) (s : Str) : Option Int := if s = [98, 111, 111, 108] then some 1 else if s = [105, 110, 116] then some 2 else (en.findIdx? fun u => u.name = s).map fun i => (i : Int) + 3

theorem findIdx_at {α : Type} {l : List α} {p : α → Bool} {i : Nat} (hi : i < l.length) (h : p l[i] = true) (hk : ∀ k (hk : k < i), p (l[k]'(by omega)) = false) : l.findIdx? p = some i := by
  rw [List.findIdx?_eq_some_iff_getElem]
  exact ⟨hi, h, fun j hj => by simpa using hk j hj⟩
theorem findIdx_no {α : Type} {l : List α} {p : α → Bool} (hk : ∀ k (hk : k < l.length), p l[k] = false) : l.findIdx? p = none := by
  rw [List.findIdx?_eq_none_iff]
  intro x hx
  obtain ⟨k, hk', rfl⟩ := List.mem_iff_getElem.1 hx
  exact hk k hk'

/-- The number with a text. -/
def intOf (s : Str) : Option Int :=
  match Go.Lib.atoiAll s with
  | .ok n => if -32768 ≤ n ∧ n ≤ 32767 ∧ Go.Lib.itoa n = s then some n else none
  | _ => none

theorem tySize_len {en : List Enum} (h : EOK en) (t : Int) : tySize en t ≤ 9223372036854775807 := by
  unfold tySize
  split
  · omega
  · split
    · omega
    · unfold enumAt
      split
      · cases he : en[(t - 3).toNat]? with
        | none => simp
        | some u => simpa using h.tags u (List.mem_of_getElem? he)
      · simp

/-- The value of a type with a text, or the error. -/
def valParse (en : List Enum) (t : Int) (s : Str) : Int × Int :=
  if (tyName en t).isNone then (0, 10) else if t = 2 then (match intOf s with | some n => (n, 0) | none => (0, 5))
  else match (List.range (tySize en t)).find? (fun v : Nat => decide ((valText en t v).2 = 0 ∧ (valText en t v).1 = s)) with | some v => ((v : Int), 0) | none => (0, 5)

theorem find_range {n i : Nat} {p : Nat → Bool} (hi : i < n) (h : p i = true) (hk : ∀ k, k < i → p k = false) : (List.range n).find? p = some i := by
  rw [List.find?_eq_some_iff_getElem]
  exact ⟨h, i, by simpa using hi, by simp, fun j hj => by simpa using hk j hj⟩
theorem find_range_no {n : Nat} {p : Nat → Bool} (hk : ∀ k, k < n → p k = false) : (List.range n).find? p = none := by
  rw [List.find?_eq_none]
  intro x hx
  simpa using hk x (by simpa using hx)

theorem indexByte_no (c : UInt8) : ∀ s : Str, c ∉ s → Go.Lib.indexByte s c = -1
  | [], _ => rfl
  | b :: s, h => by
    simp only [List.mem_cons, not_or] at h
    have : (b == c) = false := by simpa using fun e => h.1 e.symm
    simp [Go.Lib.indexByte, this, indexByte_no c s h.2]
theorem indexByte_cut (c : UInt8) : ∀ (a r : Str), c ∉ a → Go.Lib.indexByte (a ++ c :: r) c = a.length
  | [], r, _ => by simp [Go.Lib.indexByte]
  | b :: a, r, h => by
    simp only [List.mem_cons, not_or] at h
    have h1 : (b == c) = false := by simpa using fun e => h.1 e.symm
    have h2 := indexByte_cut c a r h.2
    simp only [List.cons_append, Go.Lib.indexByte, h1, Bool.false_eq_true, if_false, h2]
    have : ((a.length : Int) == -1) = false := by simp
    rw [this]; rfl

/-- A text has no such byte, or it can be cut there. -/
theorem cut_cases (c : UInt8) (s : Str) : c ∉ s ∨ ∃ a r, s = a ++ c :: r ∧ c ∉ a := by
  induction s with
  | nil => left; simp
  | cons b s ih =>
    by_cases hb : b = c
    · exact .inr ⟨[], s, by simp [hb], by simp⟩
    · rcases ih with h | ⟨a, r, e, hn⟩
      · exact .inl (by simp [Ne.symm hb, h])
      · exact .inr ⟨b :: a, r, by simp [e], by simp [Ne.symm hb, hn]⟩

section
variable {L : Nat → Option PFunc} (hL : ∀ k f, Lc k = some f → L k = some f)
include hL

theorem value_type (en : List Enum) (hen : EOK en) (s : Str) (o : Bool) (h : List PObj) : callL L 40 [.list o (en.map eEnum), .str s] h = some (.tuple [.int .i64 ((typeOf en s).getD 0), .bool (typeOf en s).isSome], h) := by
  refine callL_wp (hL 40 _ rfl) rfl ?_
  by_cases h1 : s = [98, 111, 111, 108]
  · subst h1; simp [f_value_Type, typeOf]
  · by_cases h2 : s = [105, 110, 116]
    · subst h2; simp [f_value_Type, typeOf]
    · have hl := hen.len
      have ht : typeOf en s = (en.findIdx? fun u => u.name = s).map fun i => (i : Int) + 3 := by simp [typeOf, h1, h2]
      generalize typeOf en s = T at ht ⊢
      simp [f_value_Type, h1, h2]
      refine loop_updG en.length (fun i => decide ((en.getD i default).name ≠ s)) (fun i (x : (PV × PV) × Nat) => [(4, x.1.1), (5, x.1.2), (9, .int .i64 i)]) (fun _ x => x.2) (fun _ _ => h) ((.dead, .dead), 0) ?_ ?_ ?_ rfl rfl rfl
      · intro i hi hz x ih
        have hw := wrap_succ i (by omega)
        simp [List.getD, hi] at hz
        simp [hi, hz, hw]
        simpa using ih ((_, _), _)
      · intro i hi hz hk x
        simp [List.getD, hi] at hz
        have hf := findIdx_at (p := fun u : Enum => decide (u.name = s)) hi (by simpa using hz) (fun k hk' => by have := hk k hk'; have hk2 : k < en.length := (by omega); simpa [List.getD, hk2] using this)
        rw [hf] at ht
        have hw : IntKind.i64.wrap (3 + (i : Int)) = (i : Int) + 3 := by rw [wrap_i64] <;> omega
        simp [hi, hz, hw, ht]
      · intro hz x
        have hf := findIdx_no (l := en) (p := fun u : Enum => decide (u.name = s)) (fun k hk => by have := hz k hk; simpa [List.getD, hk] using this)
        rw [hf] at ht
        simp [ht]

theorem strconv_atoi (s : Str) (hs : s.length ≤ 281474976710656) (h : List PObj) : callL L 54 [.str s] h = some ((match Go.Lib.atoiAll s with
      | .ok v => .tuple [.int .i64 v, .nilIface]
      | Go.Lib.NumEnd.syntax => .tuple [.int .i64 0, .iface 0 (.cptr [])]
      | .range => .tuple [.int .i64 (Go.Lib.atoiSat s), .iface 0 (.cptr [])]), h) := by
  rw [callL_prim (hL 54 _ rfl) rfl rfl]
  simp only [pAtoi, hs, if_true, List.map_cons, List.map_nil, dem_str]
  cases Go.Lib.atoiAll s <;> rfl

theorem value_parse (en : List Enum) (hen : EOK en) (t : Int) (ht : I64 t) (s : Str) (hs : s.length ≤ 281474976710656) (o : Bool) (h : List PObj) : callL L 41 [.list o (en.map eEnum), .int .i64 t, .str s] h = some (.tuple [.int .i64 (valParse en t s).1, .int .i64 (valParse en t s).2], h) := by
  refine callL_wp (hL 41 _ rfl) rfl ?_
  have h1 := value_valid hL en t ht false []
  cases hn : tyName en t with
  | none => simp [f_value_Parse, valParse, h1, hn]
  | some nm =>
    by_cases e2 : t = 2
    · subst e2
      have ha := strconv_atoi hL s hs h
      simp only [valParse, intOf, hn, Option.isNone_some, Bool.false_eq_true, if_false, if_true]
      cases hat : Go.Lib.atoiAll s with
      | ok n =>
        rw [hat] at ha
        by_cases hr : -32768 ≤ n ∧ n ≤ 32767
        · have hi := strconv_itoa hL n ⟨by omega, by omega⟩ []
          by_cases he : Go.Lib.itoa n = s
          · simp [f_value_Parse, h1, hn, ha, word_in hL, hr, hi, he]
          · simp [f_value_Parse, h1, hn, ha, word_in hL, hr, hi, he]
        · have hr' : ¬ (-32768 ≤ n ∧ n ≤ 32767 ∧ Go.Lib.itoa n = s) := fun h => hr ⟨h.1, h.2.1⟩
          simp [f_value_Parse, h1, hn, ha, word_in hL, hr, hr']
      | _ => rw [hat] at ha; simp [f_value_Parse, h1, hn, ha]
    · have hsz := value_size hL en t ht false []
      have hb := tySize_len hen t
      have hp : valParse en t s = match (List.range (tySize en t)).find? (fun v : Nat => decide ((valText en t v).2 = 0 ∧ (valText en t v).1 = s)) with | some v => ((v : Int), 0) | none => (0, 5) := by simp [valParse, hn, e2]
      generalize valParse en t s = R at hp ⊢
      simp [f_value_Parse, h1, hn, e2, hsz]
      refine loop_upd (tySize en t) (fun v => !decide ((valText en t v).2 = 0 ∧ (valText en t v).1 = s)) (fun v (x : PV × PV × PV) => [(7, x.1), (8, x.2.1), (9, x.2.2), (11, .int .i64 v)]) (fun _ _ => h) (.dead, .dead, .dead) ?_ ?_ ?_ rfl rfl
      · intro v hv hz x ih
        have hw := wrap_succ v (by omega)
        have hvt := value_text hL en t v ht ⟨by omega, by omega⟩ false []
        simp only [Bool.not_eq_true', decide_eq_false_iff_not, not_and] at hz
        by_cases he : (valText en t v).2 = 0
        · have he2 := hz he
          simp [hv, hvt, he, he2, hw]
          simpa using ih (_, _, _)
        · simp [hv, hvt, he, hw]
          simpa using ih (_, _, _)
      · intro v hv hz hk x
        have hf := find_range (p := fun v : Nat => decide ((valText en t v).2 = 0 ∧ (valText en t v).1 = s)) hv (by simpa using hz) (fun k hk' => by have := hk k hk'; simp only [Bool.not_eq_true'] at this; exact this)
        rw [hf] at hp
        have hvt := value_text hL en t v ht ⟨by omega, by omega⟩ false []
        simp only [Bool.not_eq_false', decide_eq_true_eq] at hz
        simp [hv, hvt, hz.1, hz.2, hp]
      · intro hz x
        have hf := find_range_no (n := tySize en t) (p := fun v : Nat => decide ((valText en t v).2 = 0 ∧ (valText en t v).1 = s)) (fun k hk => by have := hz k hk; simp only [Bool.not_eq_true'] at this; exact this)
        rw [hf] at hp
        simp [hp]

/-! ### Cutting -/

theorem index_nl (s : Str) (h : List PObj) : callL L 53 [.str s, .str [10]] h = some (.int .i64 (Go.Lib.indexByte s 10), h) := by
  refine callL_wp (hL 53 _ rfl) rfl ?_
  have h1 : callL L 59 [.str s, .int .u8 10] [] = some (.int .i64 (Go.Lib.indexByte s 10), []) := by
    rw [callL_prim (hL 59 _ rfl) rfl rfl]
    rfl
  simp [f_internal_stringslite_Index, h1]
  try (intro e; subst e; rfl)

theorem cut_no (s : Str) (hs : (10 : UInt8) ∉ s) (h : List PObj) : callL L 26 [.str s, .str [10]] h = some (.tuple [.str s, .str [], .bool false], h) := by
  have h1 := index_nl hL s []
  rw [indexByte_no 10 s hs] at h1
  have h2 : callL L 39 [.str s, .str [10]] [] = some (.tuple [.str s, .str [], .bool false], []) := by
    refine callL_wp (hL 39 _ rfl) rfl ?_
    simp [f_internal_stringslite_Cut, h1]
  refine callL_wp (hL 26 _ rfl) rfl ?_
  simp [f_strings_Cut, h2]

theorem cut_at (a r : Str) (ha : (10 : UInt8) ∉ a) (hl : Len (a.length + r.length + 1)) (h : List PObj) : callL L 26 [.str (a ++ 10 :: r), .str [10]] h = some (.tuple [.str a, .str r, .bool true], h) := by
  have h1 := index_nl hL (a ++ 10 :: r) []
  rw [indexByte_cut 10 a r ha] at h1
  have hw := wrap_succ a.length (by unfold Len at hl; omega)
  have e1 : (a ++ 10 :: r).take a.length = a := by simp
  have e2 : (a ++ 10 :: r).drop (a.length + 1) = r := by
    rw [List.drop_append]; simp
  have e3 : a.length < (a ++ 10 :: r).length := by simp
  generalize a ++ 10 :: r = s at *
  have h2 : callL L 39 [.str s, .str [10]] [] = some (.tuple [.str a, .str r, .bool true], []) := by
    refine callL_wp (hL 39 _ rfl) rfl ?_
    have f1 : (a.length : Int) ≤ s.length := by omega
    have f2 : (a.length : Int) + 1 ≤ s.length := by omega
    have f3 : (0 : Int) ≤ (a.length : Int) + 1 := by omega
    have f4 : ((a.length : Int) + 1).toNat = a.length + 1 := by omega
    simp [f_internal_stringslite_Cut, h1, hw, f1, f2, f3, f4, e1, e2]
  refine callL_wp (hL 26 _ rfl) rfl ?_
  simp [f_strings_Cut, h2]
end
end PI.Tr
