/-
  The laws of the chapter on words come to true.
-/
import Derived.Test.YtkpdipgfakdgcaaPiWordRun2
set_option maxRecDepth 100000
set_option linter.unusedSimpArgs false
namespace PI.Word
open Go (IntKind BinOp UnOp)

set_option linter.unusedVariables false
theorem w_w (n : Int) : w (w n) = w n := by unfold w; omega
theorem len_bits (m : Int) : (bitsOf 16 m).length ≤ 9223372036854775807 := by rw [bitsOf_length]; decide

theorem lOnes (n : Int) (hn : I64 n) : callL L 2 [.int .i64 n] [] = some (.bool true, []) := by
  rw [callL_run rfl rfl]
  have hw := w_rng n
  simp [L, f_law01_WordOnes, wIn, rIn, wWrap, rWrap, wNeg, rNeg, wBits, rBits, wSame, len_bits, wAwake, hn, hw]

theorem lTwos (a b : Int) (ha : I64 a) (hb : I64 b) : callL L 3 [.int .i64 a, .int .i64 b] [] = some (.bool true, []) := by
  rw [callL_run rfl rfl]
  simp [L, f_law01_WordTwos, wAdd, rAdd, wSub, rSub, wMul, rMul, wDiv, rDiv, wMod, rMod, wAwake, ha, hb]

theorem bits_len (n : Int) : (bitsOf 16 n).take 16 = bitsOf 16 n := List.take_of_length_le (by rw [bitsOf_length]; decide)
theorem val_wrap (n : Int) : w (val (bitsOf 16 (n % 65536))) = w n := by
  rw [val_bitsOf 16 (n % 65536) (by omega) (by omega)]; unfold w; omega

theorem lBits (b : List Bool) (o : Bool) (n : Int) (hb : b.length ≤ 9223372036854775807) (hn : I64 n) : callL L 0 [.list o (b.map .bool), .int .i64 n] [] = some (.bool true, []) := by
  rw [callL_run rfl rfl]
  by_cases h : (b.length : Int) = 16
  · have h' : b.length = 16 := by omega
    have e : bitsOf 16 (w (val (b.take 16)) % 65536) = b := by
      have h2 := bitsOf_val b
      have h3 := val_lt b
      rw [h'] at h2 h3
      rw [List.take_of_length_le (by omega), show w (val b) % 65536 = val b by unfold w; omega, h2]
    simp [L, f_law01_WordBits, wOf, rOf, wBits, wWrap, wSame, wAwake, len_bits, bits_len, val_wrap, hb, h, e]
  · simp [L, f_law01_WordBits, wOf, rOf, wBits, wWrap, wSame, wAwake, len_bits, bits_len, val_wrap, hb, h]

theorem bits_neg (m : Int) : ∀ d, (bitsOf d m).map (!·) = bitsOf d (-m - 1)
  | 0 => rfl
  | d + 1 => by
    simp only [bitsOf, List.map_cons, bits_neg (m / 2) d]
    rw [show -(m / 2) - 1 = (-m - 1) / 2 by omega]
    congr 1
    rcases Int.emod_two_eq m with h | h <;> rcases Int.emod_two_eq (-m - 1) with h' | h' <;> simp [h, h'] <;> omega

theorem w_shift (n k : Int) : w (n + 65536 * k) = w n := by unfold w; omega
theorem w_mul (n : Int) : ∃ k, w n = n + 65536 * k := ⟨-((n + 32768) / 65536), by unfold w; omega⟩
theorem w_add (m n : Int) : w (w m + w n) = w (m + n) := by unfold w; omega

theorem lDivides (a b : Int) (ha : I64 a) (hb : I64 b) : callL L 1 [.int .i64 a, .int .i64 b] [] = some (.bool true, []) := by
  rw [callL_run rfl rfl]
  have hx := w_rng a
  have hy := w_rng b
  by_cases h : w b = 0
  · simp [L, f_law01_WordDivides, wWrap, wDiv, wMod, wAwake, h, dv, md]
  · have e1 : md a b = (w a).tmod (w b) := by rw [md, if_neg h]
    have e2 : dv a b = w ((w a).tdiv (w b)) := by rw [dv, if_neg h]
    have hq := Int.mul_tdiv_add_tmod (w a) (w b)
    have hr : (w a).tmod (w b) < (w b).natAbs ∧ -((w b).natAbs : Int) < (w a).tmod (w b) := by
      have h3 : ((w a).tmod (w b)).natAbs < (w b).natAbs := by rw [Int.natAbs_tmod]; exact Nat.mod_lt _ (by omega)
      omega
    have hs1 : 0 ≤ w a → 0 ≤ (w a).tmod (w b) := fun h => Int.tmod_nonneg _ h
    have hs2 : w a ≤ 0 → (w a).tmod (w b) ≤ 0 := fun h => by
      have := Int.tmod_nonneg (w b) (show 0 ≤ -(w a) by omega)
      rw [Int.neg_tmod] at this; omega
    generalize hR : (w a).tmod (w b) = R at *
    generalize hQ : (w a).tdiv (w b) = Q at *
    have hsum : w (w (w Q * w b) + w R) = w a := by
      obtain ⟨k, hk⟩ := w_mul Q
      rw [w_add, hk, Int.add_mul, Int.mul_assoc, show Q * w b + 65536 * (k * w b) + R = w a + 65536 * (k * w b) by rw [Int.mul_comm Q]; omega, w_shift, w_w]
    have hR2 : I64 R := by unfold I64; omega
    have hnR : IntKind.i64.wrap (-R) = -R := w_id (by unfold I64; omega)
    have hnb : IntKind.i64.wrap (-w b) = -w b := w_id (by unfold I64; omega)
    have hmax : ∀ x : Int, (if x > 0 then x else 0) = max x 0 := by intro x; omega
    by_cases c1 : 0 < R
    · have c2 : ¬ w a < 0 := by intro h; have := hs2 (by omega); omega
      have c3 : ¬ R < 0 := by omega
      have c4 : ¬ R < -R := by omega
      by_cases d : w b < -w b
      · have f : R < -w b := by omega
        simp [L, f_law01_WordDivides, wWrap, wDiv, wMod, wMul, wAdd, wAwake, h, e1, e2, w_w, hsum, c1, c2, c3, c4, d, f, hnR, hnb]
      · have f : R < w b := by omega
        simp [L, f_law01_WordDivides, wWrap, wDiv, wMod, wMul, wAdd, wAwake, h, e1, e2, w_w, hsum, c1, c2, c3, c4, d, f, hnR, hnb]
    · by_cases c3 : R < 0
      · have c2 : ¬ 0 < w a := by intro h; have := hs1 (by omega); omega
        have c4 : R < -R := by omega
        by_cases d : w b < -w b
        · have f : w b < R := by omega
          simp [L, f_law01_WordDivides, wWrap, wDiv, wMod, wMul, wAdd, wAwake, h, e1, e2, w_w, hsum, c1, c2, c3, c4, d, f, hnR, hnb]
        · have f : -R < w b := by omega
          simp [L, f_law01_WordDivides, wWrap, wDiv, wMod, wMul, wAdd, wAwake, h, e1, e2, w_w, hsum, c1, c2, c3, c4, d, f, hnR, hnb]
      · have c0 : R = 0 := by omega
        have c4 : ¬ R < -R := by omega
        subst c0
        by_cases d : w b < -w b
        · have f : w b < 0 := by omega
          simp [L, f_law01_WordDivides, wWrap, wDiv, wMod, wMul, wAdd, wAwake, h, e1, e2, w_w, hsum, d, f, hnb, show IntKind.i64.wrap 0 = 0 from rfl]
        · have f : 0 < w b := by omega
          simp [L, f_law01_WordDivides, wWrap, wDiv, wMod, wMul, wAdd, wAwake, h, e1, e2, w_w, hsum, d, f, hnb, show IntKind.i64.wrap 0 = 0 from rfl]

theorem turns_loop (b : List Bool) (o : Bool) (hb : b.length = 16) (x0 x1 : PV) (all : List Bool) (hall : all = b.map (!·)) : ∀ (d i : Nat) (out : List Bool), i + d = 16 → out = all.take i → out.length = i →
    evL L f_law01_WordTurns_l0 ⟨[x0, x1, .list o (b.map .bool), .list true (out.map .bool), .int .i64 i], [], 0, []⟩ =
      some (.exit 0, ⟨[x0, x1, .list o (b.map .bool), .list true (all.map .bool), .int .i64 16], [], 0, []⟩)
  | 0, i, out, hi, ho, hlen => by
    have : i = 16 := by omega
    subst this
    have hal : all.length = 16 := by rw [hall, List.length_map, hb]
    rw [List.take_of_length_le (by omega)] at ho
    rw [f_law01_WordTurns_l0, evL_loop]
    simp [hb, ho]
  | d + 1, i, out, hi, ho, hlen => by
    have hib : i < b.length := by omega
    have hal : all.length = 16 := by rw [hall, List.length_map, hb]
    have hia : i < all.length := by omega
    have hi16 : (i : Int) < 16 := by omega
    have hi16' : i < 16 := by omega
    have hw : IntKind.i64.wrap ((i : Int) + 1) = ((i + 1 : Nat) : Int) := by rw [w_id (by unfold I64; omega)]; omega
    have e : out ++ [!b[i]] = all.take (i + 1) := by rw [List.take_succ_eq_append_getElem hia, ho]; simp [hall]
    have ih := turns_loop b o hb x0 x1 all hall d (i + 1) (out ++ [!b[i]]) (by omega) e (by simp [hlen])
    have hl : out.length + 1 ≤ 2147483648 := by omega
    rw [f_law01_WordTurns_l0, evL_loop]
    rw [f_law01_WordTurns_l0] at ih
    rw [← ih]
    simp [hib, hi16, hi16', hw, hb, hl]

theorem bit15 (n : Int) : (bitsOf 16 (n % 65536))[15]? = some (decide (w n < 0)) := by
  simp only [bitsOf, List.getElem?_cons_succ, List.getElem?_cons_zero, Option.some.injEq, decide_eq_decide]
  unfold w; omega

theorem bit15' (n : Int) (h : 15 < (bitsOf 16 (n % 65536)).length) : (bitsOf 16 (n % 65536))[15] = decide (w n < 0) := by
  have := bit15 n
  rw [List.getElem?_eq_getElem h] at this
  exact Option.some.inj this
theorem bits_mod : ∀ (d : Nat) (m k : Int), bitsOf d (m + 2 ^ d * k) = bitsOf d m
  | 0, _, _ => rfl
  | d + 1, m, k => by
    have e : (2 : Int) ^ (d + 1) * k = 2 * (2 ^ d * k) := by rw [Int.pow_succ, Int.mul_comm (2 ^ d) 2, Int.mul_assoc]
    simp only [bitsOf, e]
    rw [show (m + 2 * (2 ^ d * k)) / 2 = m / 2 + 2 ^ d * k by omega, bits_mod d, show (m + 2 * (2 ^ d * k)) % 2 = m % 2 by omega]

theorem lTurns (n : Int) (hn : I64 n) : callL L 4 [.int .i64 n] [] = some (.bool true, []) := by
  rw [callL_run rfl rfl]
  have hl := turns_loop (bitsOf 16 (n % 65536)) false (bitsOf_length _ _) (.int .i64 n) (.bool false) (bitsOf 16 (-(n % 65536) - 1)) (bits_neg _ 16).symm 16 0 [] rfl rfl rfl
  rw [show ((0 : Nat) : Int) = 0 from rfl] at hl
  simp at hl
  have hlen : (bitsOf 16 (n % 65536)).length = 16 := bitsOf_length _ _
  have hlen2 : (bitsOf 16 (-(n % 65536) - 1)).length ≤ 9223372036854775807 := len_bits _
  have hm : bitsOf 16 (-(n % 65536) - 1) = bitsOf 16 ((-n - 1) % 65536) := by
    have h1 := bits_mod 16 ((-n - 1) % 65536) ((-(n % 65536) - 1) / 65536)
    rw [← h1]; congr 1; omega
  have hv : w (val (bitsOf 16 (-(n % 65536) - 1))) = w (-n - 1) := by rw [hm, val_wrap]
  have he : w (-w n) % 65536 = w (w (w (-n - 1)) + w 1) % 65536 := by unfold w; omega
  simp [L, f_law01_WordTurns, wBits, hl, hlen, hlen2, wNeg, wOf, wAdd, wSame, len_bits, wIn, wWrap, wAwake, bits_len, hv, he, bit15']

end PI.Word
