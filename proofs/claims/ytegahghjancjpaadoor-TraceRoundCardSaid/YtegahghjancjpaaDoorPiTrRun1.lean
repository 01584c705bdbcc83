/-
  What the functions of traces come to: letters, identifiers, keywords.
-/
import Derived.Test.YtegahghjancjpaaDoorPiTrData
import Derived.Test.YtegahghjancjpaaDoorPiTrCode
set_option maxRecDepth 100000
set_option linter.unusedSimpArgs false
set_option linter.unusedVariables false
namespace PI.Tr
open Go (IntKind BinOp UnOp)

section
variable {L : Nat → Option PFunc} (hL : ∀ k f, Lc k = some f → L k = some f)
include hL

def letter (b : Int) : Bool := decide (97 ≤ b ∧ b ≤ 122 ∨ 65 ≤ b ∧ b ≤ 90)
def digit (b : Int) : Bool := decide (48 ≤ b ∧ b ≤ 57)
def inner (b : Int) : Bool := letter b || digit b || decide (b = 95)

theorem lex_letter (b : Int) (h : List PObj) : callL L 48 [.int .u8 b] h = some (.bool (letter b), h) := by
  refine callL_wp (hL 48 _ rfl) rfl ?_
  by_cases h1 : 97 ≤ b <;> by_cases h2 : b ≤ 122 <;> by_cases h3 : 65 ≤ b <;> by_cases h4 : b ≤ 90 <;>
    simp [f_lex_letter, letter, h1, h2, h3, h4] <;> omega
theorem ref_letter (b : Int) (h : List PObj) : callL L 42 [.int .u8 b] h = some (.bool (letter b), h) := by
  refine callL_wp (hL 42 _ rfl) rfl ?_
  by_cases h1 : 97 ≤ b <;> by_cases h2 : b ≤ 122 <;> by_cases h3 : 65 ≤ b <;> by_cases h4 : b ≤ 90 <;>
    simp [f_ref03_Letter, letter, h1, h2, h3, h4] <;> omega
theorem lex_digit (b : Int) (h : List PObj) : callL L 58 [.int .u8 b] h = some (.bool (digit b), h) := by
  refine callL_wp (hL 58 _ rfl) rfl ?_
  by_cases h1 : 48 ≤ b <;> by_cases h2 : b ≤ 57 <;> simp [f_lex_digit, digit, h1, h2]
theorem ref_digit (b : Int) (h : List PObj) : callL L 55 [.int .u8 b] h = some (.bool (digit b), h) := by
  refine callL_wp (hL 55 _ rfl) rfl ?_
  by_cases h1 : 48 ≤ b <;> by_cases h2 : b ≤ 57 <;> simp [f_ref03_digit, digit, h1, h2]
theorem lex_inner (b : Int) (h : List PObj) : callL L 50 [.int .u8 b] h = some (.bool (inner b), h) := by
  refine callL_wp (hL 50 _ rfl) rfl ?_
  by_cases h3 : b = 95
  · subst h3
    cases h1 : letter 95 <;> cases h2 : digit 95 <;> simp [f_lex_inner, lex_letter hL, lex_digit hL, inner, h1, h2]
  · cases h1 : letter b <;> cases h2 : digit b <;> simp [f_lex_inner, lex_letter hL, lex_digit hL, inner, h1, h2, h3]
theorem ref_inner (b : Int) (h : List PObj) : callL L 43 [.int .u8 b] h = some (.bool (inner b), h) := by
  refine callL_wp (hL 43 _ rfl) rfl ?_
  by_cases h3 : b = 95
  · subst h3
    cases h1 : letter 95 <;> cases h2 : digit 95 <;> simp [f_ref03_inner, ref_letter hL, ref_digit hL, inner, h1, h2]
  · cases h1 : letter b <;> cases h2 : digit b <;> simp [f_ref03_inner, ref_letter hL, ref_digit hL, inner, h1, h2, h3]

def keywords : List Str := [[97, 115, 115, 117, 109, 101], [97, 110, 100], [97, 117, 116, 111, 109, 97, 116, 111, 110], [98, 111, 111, 108], [99, 111, 110, 116, 105, 110, 117, 101], [100, 111], [100, 111, 110, 101], [101, 108, 115, 101], [101, 110, 100], [101, 110, 115, 117, 114, 101], [101, 118, 101, 114, 121], [102, 97, 108, 115, 101], [102, 98, 121], [105, 102], [105, 110, 116], [108, 101, 116], [109, 101, 114, 103, 101], [109, 111, 100], [110, 111, 100, 101], [110, 111, 116], [111, 114], [112, 114, 101], [114, 101, 116, 117, 114, 110, 115], [115, 116, 97, 116, 101], [116, 101, 108], [116, 104, 101, 110], [116, 114, 117, 101], [116, 121, 112, 101], [117, 110, 108, 101, 115, 115], [117, 110, 116, 105, 108], [118, 97, 114], [119, 104, 101, 110], [120, 111, 114]]

theorem ref_keywords (h : List PObj) : callL L 56 [] h = some (.list true (keywords.map .str), h) := by
  refine callL_wp (hL 56 _ rfl) rfl ?_
  simp [f_ref03_keywords, keywords]

def keyword (s : Str) : Bool := decide (s ∈ keywords)

theorem lex_keyword (s : Str) (h : List PObj) : callL L 49 [.str s] h = some (.bool (keyword s), h) := by
  refine callL_wp (hL 49 _ rfl) rfl ?_
  simp [f_lex_Keyword]
  repeat' split
  all_goals simp_all [keyword, keywords]

end

theorem list_eq {α : Type} {a b : List α} (hl : a.length = b.length) (h : ∀ k, k < a.length → a[k]? = b[k]?) : a = b := by
  apply List.ext_getElem?
  intro k
  by_cases hk : k < a.length
  · exact h k hk
  · rw [List.getElem?_eq_none (by omega), List.getElem?_eq_none (by omega)]

theorem any_at {α : Type} {l : List α} {p : α → Bool} {i : Nat} (hi : i < l.length) (h : p l[i] = true) : l.any p = true := List.any_eq_true.2 ⟨_, List.getElem_mem hi, h⟩
theorem all_of {α : Type} {l : List α} {p : α → Bool} (h : ∀ k (hk : k < l.length), p l[k] = true) : l.all p = true := by
  rw [List.all_eq_true]
  intro x hx
  obtain ⟨k, hk, rfl⟩ := List.mem_iff_getElem.1 hx
  exact h k hk
theorem all_not {α : Type} {l : List α} {p : α → Bool} {i : Nat} (hi : i < l.length) (h : p l[i] = false) : l.all p = false := by
  rw [Bool.eq_false_iff]
  intro e
  have := List.all_eq_true.1 e _ (List.getElem_mem hi)
  rw [h] at this; simp at this

section
variable {L : Nat → Option PFunc} (hL : ∀ k f, Lc k = some f → L k = some f)
include hL

theorem ref_keyword (s : Str) (h : List PObj) : callL L 44 [.str s] h = some (.bool (keyword s), h) := by
  refine callL_wp (hL 44 _ rfl) rfl ?_
  have hk := ref_keywords hL []
  have hl : keywords.length < 100 := by decide
  simp [f_ref03_Keyword, hk]
  refine loop_upd keywords.length (fun i => decide (keywords[i]? ≠ some s)) (fun i (x : PV) => [(3, .int .i64 i)]) (fun _ _ => h) .dead ?_ ?_ ?_ rfl rfl
  · intro i hi hok x ih
    have hw := wrap_succ i (by omega)
    simp [hi] at hok
    simp [hi, hok, hw]
    simpa using ih x
  · intro i hi hok hk x
    simp [hi] at hok
    have hm : keyword s = true := by simp [keyword, ← hok]
    simp [hi, hok, hm]
  · intro hok x
    have hm : keyword s = false := by
      simp only [keyword, decide_eq_false_iff_not]
      intro hm
      obtain ⟨k, hk, e⟩ := List.mem_iff_getElem.1 hm
      have := hok k (by omega)
      simp [hk, e] at this
    simp [hm]

def ident (s : Str) : Bool := decide (s ≠ [] ∧ s.length ≤ 40) && letter (s.headD 0).toNat && s.all (fun b => inner b.toNat) && !keyword s

theorem lex_ident (s : Str) (h : List PObj) : callL L 37 [.str s] h = some (.bool (ident s), h) := by
  refine callL_wp (hL 37 _ rfl) rfl ?_
  cases s with
  | nil => simp [f_lex_Ident, ident]
  | cons c r =>
    by_cases hlen : (c :: r).length ≤ 40
    · have hlen2 : ¬ (40 : Int) < (r.length : Int) + 1 := by simp at hlen; omega
      cases hc : letter c.toNat with
      | false => simp [f_lex_Ident, ident, hlen2, lex_letter hL, hc]
      | true =>
        cases hk : keyword (c :: r) with
        | true => simp [f_lex_Ident, ident, hlen2, lex_letter hL, lex_keyword hL, hc, hk]
        | false =>
          have hid : ident (c :: r) = (c :: r).all (fun b => inner b.toNat) := by
            simp [ident, hc, hk]; omega
          simp [f_lex_Ident, hlen2, lex_letter hL, lex_keyword hL, hc, hk]
          generalize hs : c :: r = s at *
          have hsl : (r.length : Int) + 1 = (s.length : Int) := by rw [← hs]; simp
          rw [hsl]
          refine loop_upd s.length (fun i => inner (s.getD i 0).toNat) (fun i (x : PV) => [(2, x), (4, .int .i64 i)]) (fun _ _ => h) .dead ?_ ?_ ?_ rfl rfl
          · intro i hi hok x ih
            have hw := wrap_succ i (by omega)
            simp [hi, List.getD] at hok
            simp [hi, hw, lex_inner hL, hok]
            simpa using ih _
          · intro i hi hok hk x
            have hx := all_not (p := fun b : UInt8 => inner b.toNat) hi (by simpa [hi, List.getD] using hok)
            simp [hi, List.getD] at hok
            simp [hi, lex_inner hL, hok, hid, hx]
          · intro hok x
            have hx : s.all (fun b => inner b.toNat) = true := all_of (fun k hk => by have := hok k hk; simpa [hk, List.getD] using this)
            simp [hid, hx]
    · have hlen2 : (40 : Int) < (r.length : Int) + 1 := by simp at hlen; omega
      simp [f_lex_Ident, ident, hlen2]
      omega
end
end PI.Tr
