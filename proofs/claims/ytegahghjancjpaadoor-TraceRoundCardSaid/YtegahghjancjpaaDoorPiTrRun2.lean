/-
  What the functions of traces come to: types and values.
-/
import Derived.Test.YtegahghjancjpaaDoorPiTrRun1
set_option maxRecDepth 100000
set_option linter.unusedSimpArgs false
set_option linter.unusedVariables false
namespace PI.Tr
open Go (IntKind BinOp UnOp)

abbrev I64 (n : Int) : Prop := -9223372036854775808 ≤ n ∧ n ≤ 9223372036854775807

@[simp] theorem zeroEnum : PV.agg [.str [], .list false []] = eEnum ⟨[], []⟩ := rfl

def enumAt (en : List Enum) (t : Int) : Option Enum := if 3 ≤ t then en[(t - 3).toNat]? else none
theorem enumAt_lt {en : List Enum} {t : Int} (h : t < 3) : enumAt en t = none := by unfold enumAt; rw [if_neg (by omega)]
theorem enumAt_in {en : List Enum} {k : Nat} (h : k < en.length) : enumAt en (k + 3) = some en[k] := by unfold enumAt; rw [if_pos (by omega)]; simp [show (k : Int) + 3 - 3 = k by omega, h]
theorem enumAt_out {en : List Enum} {k : Nat} (h : en.length ≤ k) : enumAt en (k + 3) = none := by unfold enumAt; rw [if_pos (by omega)]; simp [show (k : Int) + 3 - 3 = k by omega, h]

/-- A type, seen three ways. -/
theorem ty_cases (t : Int) : t < 3 ∨ ∃ k : Nat, t = k + 3 := by
  by_cases h : t < 3
  · exact .inl h
  · exact .inr ⟨(t - 3).toNat, by omega⟩

section
variable {L : Nat → Option PFunc} (hL : ∀ k f, Lc k = some f → L k = some f)
include hL

theorem value_enum (en : List Enum) (t : Int) (ht : I64 t) (o : Bool) (h : List PObj) : callL L 33 [.list o (en.map eEnum), .int .i64 t] h = some (.tuple [eEnum ((enumAt en t).getD ⟨[], []⟩), .bool (enumAt en t).isSome], h) := by
  refine callL_wp (hL 33 _ rfl) rfl ?_
  rcases ty_cases t with h3 | ⟨k, rfl⟩
  · simp [f_value_enum, h3, enumAt_lt h3]
  · have hw : IntKind.i64.wrap (k : Int) = k := by rw [wrap_i64] <;> omega
    have h3 : ¬ (k : Int) + 3 < 3 := by omega
    by_cases hk : k < en.length
    · have hk2 : ¬ (en.length : Int) ≤ k := by omega
      simp [f_value_enum, h3, hw, hk2, hk, enumAt_in hk]
    · have hk2 : (en.length : Int) ≤ k := by omega
      simp [f_value_enum, h3, hw, hk2, enumAt_out (show en.length ≤ k by omega)]

/-- The name of a type. -/
def tyName (en : List Enum) (t : Int) : Option Str := if t = 1 then some [98, 111, 111, 108] else if t = 2 then some [105, 110, 116] else (enumAt en t).map (·.name)

theorem value_name (en : List Enum) (t : Int) (ht : I64 t) (o : Bool) (h : List PObj) : callL L 20 [.list o (en.map eEnum), .int .i64 t] h = some (.tuple [.str ((tyName en t).getD []), .bool (tyName en t).isSome], h) := by
  refine callL_wp (hL 20 _ rfl) rfl ?_
  by_cases h1 : t = 1
  · subst h1; simp [f_value_Name, tyName]
  · by_cases h2 : t = 2
    · subst h2; simp [f_value_Name, tyName]
    · have := value_enum hL en t ht false []
      cases he : enumAt en t <;> simp [f_value_Name, tyName, h1, h2, this, he]

theorem value_valid (en : List Enum) (t : Int) (ht : I64 t) (o : Bool) (h : List PObj) : callL L 45 [.list o (en.map eEnum), .int .i64 t] h = some (.bool (tyName en t).isSome, h) := by
  refine callL_wp (hL 45 _ rfl) rfl ?_
  simp [f_value_valid, value_name hL en t ht false []]

/-- How many values a type has. -/
def tySize (en : List Enum) (t : Int) : Nat := if t = 1 then 2 else if t = 2 then 65536 else ((enumAt en t).map (·.tags.length)).getD 0

theorem value_size (en : List Enum) (t : Int) (ht : I64 t) (o : Bool) (h : List PObj) : callL L 52 [.list o (en.map eEnum), .int .i64 t] h = some (.int .i64 (tySize en t), h) := by
  refine callL_wp (hL 52 _ rfl) rfl ?_
  by_cases h1 : t = 1
  · subst h1; simp [f_value_Size, tySize]
  · by_cases h2 : t = 2
    · subst h2; simp [f_value_Size, tySize]
    · have := value_enum hL en t ht false []
      cases he : enumAt en t <;> simp [f_value_Size, tySize, h1, h2, this, he]

theorem word_in (v : Int) (h : List PObj) : callL L 51 [.int .i64 v] h = some (.bool (decide (-32768 ≤ v ∧ v ≤ 32767)), h) := by
  refine callL_wp (hL 51 _ rfl) rfl ?_
  by_cases h1 : -32768 ≤ v <;> by_cases h2 : v ≤ 32767 <;> simp [f_word_In, h1, h2]

/-- Is it a value of a type? -/
def tyHas (en : List Enum) (t v : Int) : Bool := if t = 2 then decide (-32768 ≤ v ∧ v ≤ 32767) else decide (0 ≤ v ∧ v < tySize en t)

theorem value_has (en : List Enum) (t v : Int) (ht : I64 t) (o : Bool) (h : List PObj) : callL L 38 [.list o (en.map eEnum), .int .i64 t, .int .i64 v] h = some (.bool (tyHas en t v), h) := by
  refine callL_wp (hL 38 _ rfl) rfl ?_
  by_cases h2 : t = 2
  · subst h2; simp [f_value_Has, tyHas, word_in hL]
  · by_cases h0 : 0 ≤ v
    · simp [f_value_Has, tyHas, h2, h0, value_size hL en t ht false []]
    · simp [f_value_Has, tyHas, h2, h0]

theorem ref_ident (s : Str) (h : List PObj) : callL L 32 [.str s] h = some (.bool (ident s), h) := by
  refine callL_wp (hL 32 _ rfl) rfl ?_
  cases s with
  | nil => simp [f_ref03_Ident, ident]
  | cons c r =>
    by_cases hlen : (c :: r).length ≤ 40
    · have hlen2 : ¬ (40 : Int) < (r.length : Int) + 1 := by simp at hlen; omega
      cases hc : letter c.toNat with
      | false => simp [f_ref03_Ident, ident, hlen2, ref_letter hL, hc]
      | true =>
        have hid : ident (c :: r) = ((c :: r).all (fun b => inner b.toNat) && !keyword (c :: r)) := by
          have hl : decide ((c :: r) ≠ [] ∧ (c :: r).length ≤ 40) = true := decide_eq_true ⟨by simp, hlen⟩
          unfold ident
          rw [hl, List.headD_cons, hc]; rfl
        simp [f_ref03_Ident, hlen2, ref_letter hL, hc]
        generalize hs : c :: r = s at *
        refine loop_upd s.length (fun i => inner (s.getD i 0).toNat) (fun i (x : PV) => [(2, .int .i64 i)]) (fun _ _ => h) .dead ?_ ?_ ?_ rfl rfl
        · intro i hi hok x ih
          have hw := wrap_succ i (by omega)
          simp [hi, List.getD] at hok
          simp [hi, hw, ref_inner hL, hok]
          simpa using ih x
        · intro i hi hok hk x
          have hx := all_not (p := fun b : UInt8 => inner b.toNat) hi (by simpa [hi, List.getD] using hok)
          simp [hi, List.getD] at hok
          simp [hi, ref_inner hL, hok, hid, hx]
        · intro hok x
          have hx : s.all (fun b => inner b.toNat) = true := all_of (fun k hk => by have := hok k hk; simpa [hk, List.getD] using this)
          simp [hid, hx, ref_keyword hL]
    · have hlen2 : (40 : Int) < (r.length : Int) + 1 := by simp at hlen; omega
      simp [f_ref03_Ident, ident, hlen2]
      omega
end
end PI.Tr
