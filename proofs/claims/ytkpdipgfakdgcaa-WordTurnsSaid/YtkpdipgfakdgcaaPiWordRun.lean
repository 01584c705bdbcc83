/-
  What the functions of word and synchronyref01 come to.
-/
import Derived.Test.YtkpdipgfakdgcaaPiSimp
import Derived.Test.YtkpdipgfakdgcaaPiWordCode
set_option maxRecDepth 100000
set_option linter.unusedSimpArgs false
namespace PI.Word
open Go (IntKind BinOp UnOp)
attribute [simp] binv

def w (n : Int) : Int := (n + 32768) % 65536 - 32768
def I64 (n : Int) : Prop := -9223372036854775808 ≤ n ∧ n ≤ 9223372036854775807

theorem wi16 (n : Int) : IntKind.i16.wrap n = (n + 32768) % 65536 - 32768 := by
  show (if (true && decide (n % 65536 ≥ 32768)) = true then n % 65536 - 65536 else n % 65536) = _
  simp only [Bool.true_and, decide_eq_true_eq]
  split <;> omega
theorem wu16 (n : Int) : IntKind.u16.wrap n = n % 65536 := by
  simp [IntKind.wrap, IntKind.bits, IntKind.signed]
theorem wi64 (n : Int) : IntKind.i64.wrap n = (n + 9223372036854775808) % 18446744073709551616 - 9223372036854775808 := by
  show (if (true && decide (n % 18446744073709551616 ≥ 9223372036854775808)) = true then n % 18446744073709551616 - 18446744073709551616 else n % 18446744073709551616) = _
  simp only [Bool.true_and, decide_eq_true_eq]
  split <;> omega
theorem wu64 (n : Int) : IntKind.u64.wrap n = n % 18446744073709551616 := by
  simp [IntKind.wrap, IntKind.bits, IntKind.signed]
theorem w_id {n : Int} (h : I64 n) : IntKind.i64.wrap n = n := by rw [wi64]; unfold I64 at h; omega
theorem w_rng (n : Int) : -32768 ≤ w n ∧ w n ≤ 32767 := by unfold w; omega
theorem w_i64 (n : Int) : I64 (w n) := by have := w_rng n; unfold I64; omega

theorem wWrap (n : Int) : callL L 9 [.int .i64 n] [] = some (.int .i64 (w n), []) := by
  rw [callL_run rfl rfl]; simp [L, f_word_Wrap, wi16, wi64, w]; omega

theorem wIn (n : Int) : callL L 16 [.int .i64 n] [] = some (.bool (decide (-32768 ≤ n ∧ n ≤ 32767)), []) := by
  rw [callL_run rfl rfl]; by_cases h : -32768 ≤ n <;> simp [L, f_word_In, h]

theorem rIn (n : Int) : callL L 17 [.int .i64 n] [] = some (.bool (decide (-32768 ≤ n ∧ n ≤ 32767)), []) := by
  rw [callL_run rfl rfl]; by_cases h : -32768 ≤ n <;> simp [L, f_ref01_In, h]

theorem rWrap (n : Int) (hn : I64 n) : callL L 18 [.int .i64 n] [] = some (.int .i64 (w n), []) := by
  unfold I64 at hn
  have e : n.tmod 65536 = if n < 0 then -((-n) % 65536) else n % 65536 := by
    split
    · have : (-n).tmod 65536 = (-n) % 65536 := Int.tmod_eq_emod_of_nonneg (by omega)
      rw [Int.neg_tmod] at this; omega
    · exact Int.tmod_eq_emod_of_nonneg (by omega)
  rw [callL_run rfl rfl]
  by_cases h1 : n.tmod 65536 > 32767
  · simp [L, f_ref01_Wrap, h1, wi64, w]; split at e <;> omega
  · by_cases h2 : n.tmod 65536 < -32768
    · simp [L, f_ref01_Wrap, h1, h2, wi64, w]; split at e <;> omega
    · simp [L, f_ref01_Wrap, h1, h2, wi64, w]; split at e <;> omega

theorem i64_of {n : Int} (h1 : -9223372036854775808 ≤ n) (h2 : n ≤ 9223372036854775807) : I64 n := ⟨h1, h2⟩
theorem w_add_i64 (a b : Int) : I64 (w a + w b) := by have := w_rng a; have := w_rng b; unfold I64; omega
theorem w_sub_i64 (a b : Int) : I64 (w a - w b) := by have := w_rng a; have := w_rng b; unfold I64; omega
theorem w_neg_i64 (a : Int) : I64 (0 - w a) := by have := w_rng a; unfold I64; omega
theorem w_mul_rng (a b : Int) : -1073741824 ≤ w a * w b ∧ w a * w b ≤ 1073741824 := by
  have ha := w_rng a; have hb := w_rng b
  have h : (w a * w b).natAbs ≤ 32768 * 32768 := by
    rw [Int.natAbs_mul]; exact Nat.mul_le_mul (by omega) (by omega)
  omega
theorem w_mul_i64 (a b : Int) : I64 (w a * w b) := by have := w_mul_rng a b; unfold I64; omega
theorem w_quo_rng (a b : Int) : -32768 ≤ (w a).tdiv (w b) ∧ (w a).tdiv (w b) ≤ 32768 := by
  have ha := w_rng a
  have h : ((w a).tdiv (w b)).natAbs ≤ 32768 := by
    rw [Int.natAbs_tdiv]; exact Nat.le_trans (Nat.div_le_self _ _) (by omega)
  omega
theorem w_quo_i64 (a b : Int) : I64 ((w a).tdiv (w b)) := by have := w_quo_rng a b; unfold I64; omega

theorem wNeg (n : Int) : callL L 19 [.int .i64 n] [] = some (.int .i64 (w (-(w n))), []) := by
  rw [callL_run rfl rfl]; simp [L, f_word_Neg, wWrap, ← Int.zero_sub, w_id (w_neg_i64 n)]
theorem rNeg (n : Int) (hn : I64 n) : callL L 20 [.int .i64 n] [] = some (.int .i64 (w (-(w n))), []) := by
  rw [callL_run rfl rfl]; simp [L, f_ref01_Neg, rWrap, hn, ← Int.zero_sub, w_id (w_neg_i64 n), w_neg_i64]
theorem wAdd (a b : Int) : callL L 14 [.int .i64 a, .int .i64 b] [] = some (.int .i64 (w (w a + w b)), []) := by
  rw [callL_run rfl rfl]; simp [L, f_word_Add, wWrap, w_id (w_add_i64 a b)]
theorem wSub (a b : Int) : callL L 23 [.int .i64 a, .int .i64 b] [] = some (.int .i64 (w (w a - w b)), []) := by
  rw [callL_run rfl rfl]; simp [L, f_word_Sub, wWrap, w_id (w_sub_i64 a b)]
theorem wMul (a b : Int) : callL L 15 [.int .i64 a, .int .i64 b] [] = some (.int .i64 (w (w a * w b)), []) := by
  rw [callL_run rfl rfl]; simp [L, f_word_Mul, wWrap, w_id (w_mul_i64 a b)]
theorem rAdd (a b : Int) (ha : I64 a) (hb : I64 b) : callL L 22 [.int .i64 a, .int .i64 b] [] = some (.int .i64 (w (w a + w b)), []) := by
  rw [callL_run rfl rfl]; simp [L, f_ref01_Add, rWrap, ha, hb, w_id (w_add_i64 a b), w_add_i64]
theorem rSub (a b : Int) (ha : I64 a) (hb : I64 b) : callL L 24 [.int .i64 a, .int .i64 b] [] = some (.int .i64 (w (w a - w b)), []) := by
  rw [callL_run rfl rfl]; simp [L, f_ref01_Sub, rWrap, ha, hb, w_id (w_sub_i64 a b), w_sub_i64]
theorem rMul (a b : Int) (ha : I64 a) (hb : I64 b) : callL L 25 [.int .i64 a, .int .i64 b] [] = some (.int .i64 (w (w a * w b)), []) := by
  rw [callL_run rfl rfl]; simp [L, f_ref01_Mul, rWrap, ha, hb, w_id (w_mul_i64 a b), w_mul_i64]

def dv (a b : Int) : Int := if w b = 0 then 0 else w ((w a).tdiv (w b))
def md (a b : Int) : Int := if w b = 0 then w a else (w a).tmod (w b)
theorem wDiv (a b : Int) : callL L 12 [.int .i64 a, .int .i64 b] [] = some (.int .i64 (dv a b), []) := by
  rw [callL_run rfl rfl]; by_cases h : w b = 0 <;> simp [L, f_word_Div, wWrap, h, dv, w_id (w_quo_i64 a b)]
theorem wMod (a b : Int) : callL L 13 [.int .i64 a, .int .i64 b] [] = some (.int .i64 (md a b), []) := by
  rw [callL_run rfl rfl]; by_cases h : w b = 0 <;> simp [L, f_word_Mod, wWrap, h, md]
theorem rDiv (a b : Int) (ha : I64 a) (hb : I64 b) : callL L 26 [.int .i64 a, .int .i64 b] [] = some (.int .i64 (dv a b), []) := by
  rw [callL_run rfl rfl]; by_cases h : w b = 0 <;> simp [L, f_ref01_Div, rWrap, ha, hb, h, dv, w_id (w_quo_i64 a b), w_quo_i64]
theorem rMod (a b : Int) (ha : I64 a) (hb : I64 b) : callL L 27 [.int .i64 a, .int .i64 b] [] = some (.int .i64 (md a b), []) := by
  rw [callL_run rfl rfl]; by_cases h : w b = 0 <;> simp [L, f_ref01_Mod, rWrap, ha, hb, h, md]
end PI.Word
