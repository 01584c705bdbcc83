/-
  What the functions of word and synchronyref01 that handle bits come to.
-/
import Derived.Test.YtkpdipgfakdgcaaPiWordRun
set_option maxRecDepth 100000
set_option linter.unusedSimpArgs false
namespace PI.Word
open Go (IntKind BinOp UnOp)

theorem headOk1 (b : List Bool) : headOk 1 (b.map .bool) = true := by cases b <;> simp [headOk, PV.cells]
theorem refFrees_bools (b : List Bool) : refFrees (b.map .bool) = true := by induction b with
  | nil => rfl
  | cons x xs ih => simp [refFrees, refFree, ih]
@[simp] theorem headOk_nil (s : Nat) : headOk s [] = true := rfl
@[simp] theorem headOk_cons (s : Nat) (e : PV) (r : List PV) : headOk s (e :: r) = (e.cells.length == s) := rfl
@[simp] theorem cells_bool (b : Bool) : (PV.bool b).cells = [.bool b] := rfl
@[simp] theorem flat_bool (b : Bool) : (PV.bool b).flat = true := rfl
attribute [simp] headOk1 refFrees_bools loadFrom storeInto setElems

@[simp] theorem bits_u16 : IntKind.u16.bits = 16 := rfl
def and16 (a b : Int) : Int := IntKind.u16.wrap ((BitVec.ofInt 16 a &&& BitVec.ofInt 16 b).toNat : Int)
def or16 (a b : Int) : Int := IntKind.u16.wrap ((BitVec.ofInt 16 a ||| BitVec.ofInt 16 b).toNat : Int)
def shl16 (a : Int) (n : Nat) : Int := IntKind.u16.wrap (a * 2 ^ (min n 16))
def shr16 (a : Int) (n : Nat) : Int := a.fdiv (2 ^ (min n 16))
@[simp high] theorem binv_and16 (a b : Int) : binv .and (.int .u16 a) (.int .u16 b) = some (.int .u16 (and16 a b)) := rfl
@[simp high] theorem binv_or16 (a b : Int) : binv .or (.int .u16 a) (.int .u16 b) = some (.int .u16 (or16 a b)) := rfl
@[simp high] theorem binv_shr16 (a b : Int) : binv .shr (.int .u16 a) (.int .i64 b) = if b < 0 then none else some (.int .u16 (shr16 a b.toNat)) := rfl
@[simp high] theorem binv_shl16 (a b : Int) : binv .shl (.int .u16 a) (.int .i64 b) = if b < 0 then none else some (.int .u16 (shl16 a b.toNat)) := rfl
attribute [-simp] binv
@[simp] theorem binv_i64 (op : BinOp) (h1 : op ≠ .shl) (h2 : op ≠ .shr) (a b : Int) : binv op (.int .i64 a) (.int .i64 b) = intBin op .i64 a b := by cases op <;> simp_all [binv]
@[simp] theorem binv_u16 (op : BinOp) (h1 : op ≠ .shl) (h2 : op ≠ .shr) (a b : Int) : binv op (.int .u16 a) (.int .u16 b) = intBin op .u16 a b := by cases op <;> simp_all [binv]

/-! ### same -/

theorem same_loop (a b : List Bool) (hl : a.length = b.length) (o1 o2 : Bool) (ha : a.length ≤ 9223372036854775807) (x : PV) : ∀ (d i : Nat), i + d = a.length → (a.take i = b.take i) →
    ∃ y, evL L f_law01_same_l0 ⟨[.list o1 (a.map .bool), .list o2 (b.map .bool), x, .int .i64 i], [], 0, []⟩ =
      some (if a = b then (.exit 0, ⟨[.list o1 (a.map .bool), .list o2 (b.map .bool), x, y], [], 0, []⟩) else (.ret, ⟨[.list o1 (a.map .bool), .list o2 (b.map .bool), .bool false, y], [], 0, []⟩))
  | 0, i, h, ht => by
    have e : a = b := by
      have h1 : a.take i = a := List.take_of_length_le (by omega)
      have h2 : b.take i = b := List.take_of_length_le (by omega)
      rw [h1, h2] at ht; exact ht
    refine ⟨.int .i64 i, ?_⟩
    rw [f_law01_same_l0, evL_loop]
    have hi : ¬ (i < b.length) := by omega
    simp [hi, e]
  | d + 1, i, h, ht => by
    have hi : i < a.length := by omega
    have hi' : i < b.length := by omega
    have hw : IntKind.i64.wrap ((i : Int) + 1) = ((i + 1 : Nat) : Int) := by rw [w_id (by unfold I64; omega)]; omega
    by_cases he : a[i] = b[i]
    · obtain ⟨y, ih⟩ := same_loop a b hl o1 o2 ha x d (i + 1) (by omega) (by rw [List.take_succ_eq_append_getElem hi, List.take_succ_eq_append_getElem hi', ht, he])
      refine ⟨y, ?_⟩
      rw [← ih, f_law01_same_l0, evL_loop]
      simp [hi, hi', hw, he]
    · refine ⟨.int .i64 i, ?_⟩
      have hne : a ≠ b := by rintro rfl; exact he rfl
      rw [f_law01_same_l0, evL_loop]
      simp [hi, hi', he, hne]

theorem wSame (a b : List Bool) (o1 o2 : Bool) (ha : a.length ≤ 9223372036854775807) (hb : b.length ≤ 9223372036854775807) : callL L 11 [.list o1 (a.map .bool), .list o2 (b.map .bool)] [] = some (.bool (decide (a = b)), []) := by
  rw [callL_run rfl rfl]
  by_cases hl : a.length = b.length
  · obtain ⟨y, h⟩ := same_loop a b hl false false ha (.bool false) a.length 0 (by omega) rfl
    rw [show ((0 : Nat) : Int) = 0 from rfl] at h
    by_cases e : a = b
    · simp [L, f_law01_same, h, e]
      subst e; simp at h; simp [h]
    · simp [L, f_law01_same, e, hl]
      simp [e] at h; simp [h]
  · have e : a ≠ b := by rintro rfl; exact hl rfl
    have hl' : (a.length : Int) ≠ b.length := by omega
    simp [L, f_law01_same, e, hl']

/-! ### bits -/

def bitsOf : Nat → Int → List Bool
  | 0, _ => []
  | d + 1, m => decide (m % 2 = 1) :: bitsOf d (m / 2)

def val : List Bool → Nat
  | [] => 0
  | b :: bs => b.toNat + 2 * val bs

theorem bitsOf_length : ∀ (d : Nat) (m : Int), (bitsOf d m).length = d
  | 0, _ => rfl
  | d + 1, m => by simp [bitsOf, bitsOf_length d]

theorem val_bitsOf : ∀ (d : Nat) (m : Int), 0 ≤ m → m < 2 ^ d → (val (bitsOf d m) : Int) = m
  | 0, m, h0, h1 => by simp [bitsOf, val]; simp at h1; omega
  | d + 1, m, h0, h1 => by
    rw [Int.pow_succ] at h1
    have := val_bitsOf d (m / 2) (by omega) (by omega)
    simp only [bitsOf, val, Int.natCast_add, Int.natCast_mul, this]
    rcases Int.emod_two_eq m with h | h <;> simp [h] <;> omega

theorem val_lt : ∀ (b : List Bool), val b < 2 ^ b.length
  | [] => by simp [val]
  | b :: bs => by have := val_lt bs; simp only [val, List.length_cons, Nat.pow_succ]; cases b <;> simp <;> omega

theorem bitsOf_val : ∀ (b : List Bool), bitsOf b.length (val b) = b
  | [] => rfl
  | b :: bs => by
    have h := bitsOf_val bs
    have e : ((val (b :: bs) : Nat) : Int) / 2 = val bs := by simp only [val]; cases b <;> simp <;> omega
    have e2 : decide (((val (b :: bs) : Nat) : Int) % 2 = 1) = b := by simp only [val]; cases b <;> simp <;> omega
    simp only [List.length_cons, bitsOf, e, h, e2]

theorem val_snoc : ∀ (b : List Bool) (x : Bool), val (b ++ [x]) = val b + x.toNat * 2 ^ b.length
  | [], x => by simp [val]
  | b :: bs, x => by simp only [List.cons_append, val, val_snoc bs x, List.length_cons, Nat.pow_succ, Nat.mul_add]; rw [← Nat.mul_assoc x.toNat, Nat.mul_comm _ 2]; omega

theorem rBits_loop (x0 x1 : PV) (hx : dem x0 = x0) : ∀ (d : Nat) (m : Int) (i : Nat) (out : List Bool), 0 ≤ m → m < 65536 → i + d = 16 → out.length = i →
    ∃ y, evL L f_ref01_Bits_l0 ⟨[x0, x1, .int .i64 m, .list true (out.map .bool), .int .i64 i], [], 0, []⟩ =
      some (.exit 0, ⟨[x0, x1, y, .list true ((out ++ bitsOf d m).map .bool), .int .i64 16], [], 0, []⟩)
  | 0, m, i, out, h0, h1, hi, ho => by
    refine ⟨.int .i64 m, ?_⟩
    have : i = 16 := by omega
    subst this
    rw [f_ref01_Bits_l0, evL_loop]
    simp [bitsOf]
  | d + 1, m, i, out, h0, h1, hi, ho => by
    have hw : IntKind.i64.wrap ((i : Int) + 1) = ((i + 1 : Nat) : Int) := by rw [w_id (by unfold I64; omega)]; omega
    have hm : m.tmod 2 = m % 2 := Int.tmod_eq_emod_of_nonneg h0
    have hd : m.tdiv 2 = m / 2 := Int.tdiv_eq_ediv_of_nonneg h0
    have hw2 : IntKind.i64.wrap (m / 2) = m / 2 := w_id (by unfold I64; omega)
    have hlt : (i : Int) < 16 := by omega
    have hle : out.length + 1 ≤ 2147483648 := by omega
    obtain ⟨y, ih⟩ := rBits_loop x0 x1 hx d (m / 2) (i + 1) (out ++ [decide (m % 2 = 1)]) (by omega) (by omega) (by omega) (by simp [ho])
    refine ⟨y, ?_⟩
    rw [f_ref01_Bits_l0, evL_loop]
    rw [f_ref01_Bits_l0] at ih
    simp only [bitsOf]
    rw [show out ++ decide (m % 2 = 1) :: bitsOf d (m / 2) = out ++ [decide (m % 2 = 1)] ++ bitsOf d (m / 2) by simp, ← ih]
    simp [hlt, hw, hm, hd, hw2, hle]
    rfl

theorem w_bits_eq (n : Int) : (if w n < 0 then w n + 65536 else w n) = n % 65536 := by unfold w; split <;> omega

theorem rBits (n : Int) (hn : I64 n) : callL L 21 [.int .i64 n] [] = some (.list false ((bitsOf 16 (n % 65536)).map .bool), []) := by
  rw [callL_run rfl rfl]
  have hw := w_rng n
  by_cases h : w n < 0
  · have hw2 : IntKind.i64.wrap (w n + 65536) = n % 65536 := by rw [w_id (by unfold I64; omega), ← w_bits_eq, if_pos h]
    obtain ⟨y, hl⟩ := rBits_loop (.int .i64 n) (.list true []) rfl 16 (n % 65536) 0 [] (by omega) (by omega) rfl rfl
    rw [show ((0 : Nat) : Int) = 0 from rfl] at hl
    simp [L, f_ref01_Bits, rWrap, hn, h, hw2]
    simp at hl
    simp [hl]
  · have hw2 : w n = n % 65536 := by rw [← w_bits_eq, if_neg h]
    obtain ⟨y, hl⟩ := rBits_loop (.int .i64 n) (.list true []) rfl 16 (n % 65536) 0 [] (by omega) (by omega) rfl rfl
    rw [show ((0 : Nat) : Int) = 0 from rfl] at hl
    simp [L, f_ref01_Bits, rWrap, hn, h]
    rw [hw2]
    simp at hl
    simp [hl]

/-! ### word.Bits -/

def tb (m : Int) (i : Nat) : Bool := decide (m / 2 ^ i % 2 = 1)
def fill (m : Int) : Nat → Nat → List PV → List PV
  | 0, _, cs => cs
  | d + 1, i, cs => fill m d (i + 1) (cs.set i (.bool (tb m i)))

theorem and_one (m : Int) (h0 : 0 ≤ m) (h1 : m < 65536) : (BitVec.ofInt 16 m &&& BitVec.ofInt 16 1).toNat = (m % 2).toNat := by
  obtain ⟨k, rfl⟩ := Int.eq_ofNat_of_zero_le h0
  simp only [BitVec.toNat_and, BitVec.toNat_ofInt]
  have e1 : ((1 : Int) % (2 ^ 16 : Nat)).toNat = 1 := by decide
  rw [e1, Nat.and_one_is_mod]
  have e2 : (((k : Int)) % ((2 ^ 16 : Nat) : Int)).toNat = k := by omega
  rw [e2]; omega

theorem wBits_loop (x0 x1 : PV) (g : Nat) (m : Int) (h0 : 0 ≤ m) (h1 : m < 65536) : ∀ (d : Nat) (i : Nat) (cs : List PV) (x4 : PV), i + d = 16 → cs.length = 16 →
    ∃ y, evL L f_word_Bits_l0 ⟨[x0, x1, .loc g cs, .int .u16 m, x4, .int .i64 i], [], 1, []⟩ =
      some (.exit 0, ⟨[x0, x1, .loc g (fill m d i cs), .int .u16 m, y, .int .i64 16], [], 1, []⟩)
  | 0, i, cs, x4, hi, hc => by
    refine ⟨x4, ?_⟩
    have : i = 16 := by omega
    subst this
    rw [f_word_Bits_l0, evL_loop]
    simp [fill]
  | d + 1, i, cs, x4, hi, hc => by
    have hlt : (i : Int) < 16 := by omega
    have hlt' : i < 16 := by omega
    have hw : IntKind.i64.wrap ((i : Int) + 1) = ((i + 1 : Nat) : Int) := by rw [w_id (by unfold I64; omega)]; omega
    obtain ⟨y, ih⟩ := wBits_loop x0 x1 g m h0 h1 d (i + 1) (cs.set i (.bool (tb m i))) (.int .i64 i) (by omega) (by simp [hc])
    refine ⟨y, ?_⟩
    rw [f_word_Bits_l0, evL_loop]
    rw [f_word_Bits_l0] at ih
    simp only [fill]
    rw [← ih]
    have ha : (and16 (shr16 m i) 1 == 1) = tb m i := by
      have hmin : min i 16 = i := by omega
      have hq0 : 0 ≤ m / 2 ^ i := Int.ediv_nonneg h0 (Int.le_of_lt (Int.pow_pos (by decide)))
      have hq1 : m / 2 ^ i < 65536 := Int.lt_of_le_of_lt (Int.ediv_le_self _ h0) h1
      rw [shr16, hmin, Int.fdiv_eq_ediv_of_nonneg _ (Int.le_of_lt (Int.pow_pos (by decide))), and16, and_one _ hq0 hq1, wu16, tb]
      rcases Int.emod_two_eq (m / 2 ^ i) with h | h <;> simp [h]
    have hneg : ¬ (i : Int) < 0 := by omega
    simp [hlt, hlt', hw, hc, hneg, ha]

theorem fill_bits (m : Int) : fill m 16 0 (List.replicate 16 (.bool false)) = (bitsOf 16 m).map .bool := by
  simp only [fill, bitsOf, List.replicate, List.set, List.map, tb, Int.reducePow, Int.reduceAdd, Nat.reduceAdd]
  simp only [List.cons.injEq, PV.bool.injEq, decide_eq_decide, and_true]
  refine ⟨?_, trivial, ?_, ?_, ?_, ?_, ?_, ?_, ?_, ?_, ?_, ?_, ?_, ?_, ?_, ?_⟩ <;> omega

theorem wBits (n : Int) : callL L 8 [.int .i64 n] [] = some (.list true ((bitsOf 16 (n % 65536)).map .bool), []) := by
  rw [callL_run rfl rfl]
  obtain ⟨y, hl⟩ := wBits_loop (.int .i64 n) (.list true []) 0 (n % 65536) (by omega) (by omega) 16 0 (List.replicate 16 (.bool false)) .dead rfl rfl
  rw [fill_bits, show ((0 : Nat) : Int) = 0 from rfl] at hl
  have hlen := bitsOf_length 16 (n % 65536)
  simp [L, f_word_Bits, wu16]
  simp at hl
  simp [hl, hlen]

/-! ### Of -/

theorem or_pow (u i : Nat) (hu : u < 2 ^ i) (hi : i < 16) : or16 (u : Int) (shl16 1 i) = ((u + 2 ^ i : Nat) : Int) := by
  have h2 : (2 : Nat) ^ i < 65536 := by
    calc 2 ^ i ≤ 2 ^ 15 := Nat.pow_le_pow_right (by decide) (by omega)
      _ < 65536 := by decide
  have h3 : (2 : Nat) ^ i + 2 ^ i ≤ 65536 := by
    have : (2 : Nat) ^ (i + 1) ≤ 2 ^ 16 := Nat.pow_le_pow_right (by decide) (by omega)
    rw [Nat.pow_succ] at this; omega
  have e1 : shl16 1 i = ((2 ^ i : Nat) : Int) := by
    rw [shl16, wu16, show min i 16 = i by omega, Int.one_mul, show ((2 : Int) ^ i) = ((2 ^ i : Nat) : Int) by simp]; omega
  rw [or16, e1, wu16, BitVec.toNat_or, BitVec.toNat_ofInt, BitVec.toNat_ofInt]
  have e2 : ∀ k : Nat, k < 65536 → (((k : Nat) : Int) % ((2 ^ 16 : Nat) : Int)).toNat = k := by intro k hk; omega
  have e3 := Nat.two_pow_add_eq_or_of_lt hu 1
  rw [Nat.mul_one] at e3
  rw [e2 _ (by omega), e2 _ h2, Nat.or_comm, ← e3]
  omega

theorem val_take_succ (b : List Bool) (i : Nat) (hi : i < b.length) : val (b.take (i + 1)) = val (b.take i) + (b[i]).toNat * 2 ^ i := by
  rw [List.take_succ_eq_append_getElem hi, val_snoc, List.length_take, Nat.min_eq_left (by omega)]

theorem val_take_lt (b : List Bool) (i : Nat) (hi : i ≤ b.length) : val (b.take i) < 2 ^ i := by
  have := val_lt (b.take i)
  rw [List.length_take, Nat.min_eq_left hi] at this; exact this

theorem wOf_loop (b : List Bool) (x1 : PV) : ∀ (d : Nat) (i m : Nat) (x3 : PV), m ≤ 16 → m ≤ b.length → i + d = m →
    ∃ y z, evL L f_word_Of_l0 ⟨[.list false (b.map .bool), x1, .int .u16 (val (b.take i)), x3, .int .i64 m, .int .i64 i], [], 0, []⟩ =
      some (.exit 0, ⟨[.list false (b.map .bool), x1, .int .u16 (val (b.take m)), y, .int .i64 m, z], [], 0, []⟩)
  | 0, i, m, x3, h1, h2, hi => by
    refine ⟨x3, .int .i64 i, ?_⟩
    have : i = m := by omega
    subst this
    rw [f_word_Of_l0, evL_loop]
    simp
  | d + 1, i, m, x3, h1, h2, hi => by
    have hlt : i < m := by omega
    have hib : i < b.length := by omega
    have hw : IntKind.i64.wrap ((i : Int) + 1) = ((i + 1 : Nat) : Int) := by rw [w_id (by unfold I64; omega)]; omega
    obtain ⟨y, z, ih⟩ := wOf_loop b x1 d (i + 1) m (.int .i64 i) h1 h2 (by omega)
    refine ⟨y, z, ?_⟩
    rw [f_word_Of_l0, evL_loop]
    rw [f_word_Of_l0] at ih
    rw [← ih, val_take_succ b i hib]
    have ho := or_pow (val (b.take i)) i (val_take_lt b i (by omega)) (by omega)
    by_cases hb : b[i] = true
    · have hneg : ¬ (i : Int) < 0 := by omega
      simp [hlt, hib, hw, hb, hneg, ho]
    · simp [hlt, hib, hw, hb]

theorem wOf (b : List Bool) (o : Bool) (hb : b.length ≤ 9223372036854775807) : callL L 6 [.list o (b.map .bool)] [] = some (.int .i64 (w (val (b.take 16))), []) := by
  rw [callL_run rfl rfl]
  by_cases h : 16 < b.length
  · have h' : (16 : Int) < (b.length : Int) := by omega
    obtain ⟨y, z, hl⟩ := wOf_loop b (.int .i64 0) 16 0 16 .dead (by omega) (by omega) rfl
    simp [val] at hl
    simp [L, f_word_Of, hl, h', wi16, wi64, w]
    omega
  · have h' : ¬ (16 : Int) < (b.length : Int) := by omega
    obtain ⟨y, z, hl⟩ := wOf_loop b (.int .i64 0) b.length 0 b.length .dead (by omega) (by omega) (by omega)
    rw [List.take_of_length_le (Nat.le_refl _)] at hl
    simp [val] at hl
    simp [L, f_word_Of, hl, h', wi16, wi64, w, List.take_of_length_le (show b.length ≤ 16 by omega)]
    omega

theorem rOf_loop (b : List Bool) (hb : b.length ≤ 9223372036854775807) (x1 : PV) : ∀ (d i : Nat), i ≤ b.length → i + d = min b.length 16 →
    ∃ y z, evL L f_ref01_Of_l0 ⟨[.list false (b.map .bool), x1, .int .i64 (val (b.take i)), .int .i64 ((2 ^ i : Nat) : Int), .int .i64 i], [], 0, []⟩ =
      some (.exit 0, ⟨[.list false (b.map .bool), x1, .int .i64 (val (b.take 16)), y, z], [], 0, []⟩)
  | 0, i, h1, hi => by
    refine ⟨.int .i64 ((2 ^ i : Nat) : Int), .int .i64 i, ?_⟩
    have e : b.take i = b.take 16 := by
      by_cases h : 16 ≤ b.length
      · rw [show i = 16 by omega]
      · rw [List.take_of_length_le (by omega), List.take_of_length_le (by omega)]
    rw [f_ref01_Of_l0, evL_loop, ← e]
    by_cases h : i < b.length
    · have h16 : i = 16 := by omega
      subst h16
      have h' : (16 : Int) < (b.length : Int) := by omega
      simp [h']
    · simp [h]
  | d + 1, i, h1, hi => by
    have hib : i < b.length := by omega
    have hi16 : (i : Int) < 16 := by omega
    have hw : IntKind.i64.wrap ((i : Int) + 1) = ((i + 1 : Nat) : Int) := by rw [w_id (by unfold I64; omega)]; omega
    have h2 : (2 : Nat) ^ i < 65536 := by
      calc 2 ^ i ≤ 2 ^ 15 := Nat.pow_le_pow_right (by decide) (by omega)
        _ < 65536 := by decide
    have hp : IntKind.i64.wrap (2 * ((2 ^ i : Nat) : Int)) = ((2 ^ (i + 1) : Nat) : Int) := by
      rw [Nat.pow_succ]; generalize (2 : Nat) ^ i = q at h2 ⊢; rw [w_id (by unfold I64; omega)]; omega
    have hv := val_take_lt b i (by omega)
    have hs : IntKind.i64.wrap ((val (b.take i) : Int) + ((2 ^ i : Nat) : Int)) = ((val (b.take i) + 2 ^ i : Nat) : Int) := by
      generalize (2 : Nat) ^ i = q at h2 hv ⊢; rw [w_id (by unfold I64; omega)]; omega
    obtain ⟨y, z, ih⟩ := rOf_loop b hb x1 d (i + 1) (by omega) (by omega)
    refine ⟨y, z, ?_⟩
    rw [f_ref01_Of_l0, evL_loop]
    rw [f_ref01_Of_l0] at ih
    rw [← ih, val_take_succ b i hib]
    generalize ((2 ^ i : Nat) : Int) = P at *
    generalize ((2 ^ (i + 1) : Nat) : Int) = P' at *
    by_cases hbi : b[i] = true
    · simp [hib, hi16, hw, hbi, hp, hs]
    · simp [hib, hi16, hw, hbi, hp]

theorem rOf (b : List Bool) (o : Bool) (hb : b.length ≤ 9223372036854775807) : callL L 7 [.list o (b.map .bool)] [] = some (.int .i64 (w (val (b.take 16))), []) := by
  rw [callL_run rfl rfl]
  obtain ⟨y, z, hl⟩ := rOf_loop b hb (.int .i64 0) (min b.length 16) 0 (by omega) (by omega)
  have hv : val (b.take 16) < 65536 := by
    have := val_lt (b.take 16)
    have h2 : (2 : Nat) ^ (b.take 16).length ≤ 2 ^ 16 := Nat.pow_le_pow_right (by decide) (by rw [List.length_take]; omega)
    omega
  have hr := rWrap (val (b.take 16)) (by unfold I64; omega)
  simp [val] at hl
  simp [L, f_ref01_Of, hl, hr]

theorem wAwake : callL L 10 [] [] = some (.bool true, []) := by
  rw [callL_run rfl rfl]
  have h5 : bitsOf 16 5 = [true, false, true, false, false, false, false, false, false, false, false, false, false, false, false, false] := by decide
  have ho := wOf [true, false, true, false, false, false, false, false, false, false, false, false, false, false, false, false] false (by decide)
  simp at ho
  simp [L, f_law01_awake, wBits, h5, wIn, wWrap, wAdd, wMul, wDiv, wMod, ho, dv, md, w, val]
end PI.Word
