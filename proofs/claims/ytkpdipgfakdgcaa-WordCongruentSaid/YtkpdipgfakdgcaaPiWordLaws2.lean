/-
  The law of the congruences comes to true.
-/
import Derived.Test.YtkpdipgfakdgcaaPiWordLaws
set_option maxRecDepth 100000
set_option linter.unusedSimpArgs false
namespace PI.Word
open Go (IntKind BinOp UnOp)

theorem u64tm (x : Int) : (IntKind.u64.wrap x).tmod 65536 = x % 65536 := by
  rw [wu64, Int.tmod_eq_emod_of_nonneg (by omega)]; omega

theorem md_rng (a b : Int) : -32768 ≤ md a b ∧ md a b ≤ 32767 := by
  unfold md
  have ha := w_rng a
  have hb := w_rng b
  split
  · exact ha
  · have h3 : ((w a).tmod (w b)).natAbs < (w b).natAbs := by rw [Int.natAbs_tmod]; exact Nat.mod_lt _ (by omega)
    omega
theorem dv_rng (a b : Int) : -32768 ≤ dv a b ∧ dv a b ≤ 32767 := by
  unfold dv
  split
  · omega
  · exact w_rng _

theorem binv_u64 (op : BinOp) (h1 : op ≠ .shl) (h2 : op ≠ .shr) (a b : Int) : binv op (.int .u64 a) (.int .u64 b) = intBin op .u64 a b := by cases op <;> simp_all [binv]

theorem prodmod (a b x y : Int) (h1 : x % 65536 = a % 65536) (h2 : y % 65536 = b % 65536) : (x * y) % 65536 = (a * b) % 65536 := by
  rw [Int.mul_emod, h1, h2, ← Int.mul_emod]

theorem lCongruent (a b : Int) : callL L 5 [.int .i64 a, .int .i64 b] [] = some (.bool true, []) := by
  rw [callL_run rfl rfl]
  have h1 := w_rng (w a + w b)
  have h2 := w_rng (w a - w b)
  have h3 := w_rng (w a * w b)
  have h4 := w_rng (-w a)
  have h5 := dv_rng a b
  have h6 := md_rng a b
  have e1 : (IntKind.u64.wrap (IntKind.u64.wrap (w (w a + w b)) - IntKind.u64.wrap a) - IntKind.u64.wrap b) % 65536 = 0 := by
    simp only [wu64]; unfold w; omega
  have e2 : (IntKind.u64.wrap (IntKind.u64.wrap (w (w a - w b)) - IntKind.u64.wrap a) + IntKind.u64.wrap b) % 65536 = 0 := by
    simp only [wu64]; unfold w; omega
  have e3 : (IntKind.u64.wrap (w (w a * w b)) - IntKind.u64.wrap (IntKind.u64.wrap a * IntKind.u64.wrap b)) % 65536 = 0 := by
    have p := prodmod (w a) (w b) (IntKind.u64.wrap a) (IntKind.u64.wrap b) (by simp only [wu64]; unfold w; omega) (by simp only [wu64]; unfold w; omega)
    generalize IntKind.u64.wrap a * IntKind.u64.wrap b = q at *
    generalize w a * w b = q2 at *
    simp only [wu64]; unfold w; omega
  have e4 : (IntKind.u64.wrap (w (-w a)) + IntKind.u64.wrap a) % 65536 = 0 := by
    simp only [wu64]; unfold w; omega
  have e5 : (IntKind.u64.wrap (w a) - IntKind.u64.wrap a) % 65536 = 0 := by
    simp only [wu64]; unfold w; omega
  simp [L, f_law01_WordCongruent, wAdd, wSub, wMul, wNeg, wIn, wDiv, wMod, wWrap, wAwake, h1, h2, h3, h4, h5, h6, binv_u64, u64tm, e1, e2, e3, e4, e5, intBin, w_rng]

end PI.Word
