/-
  Functions of the library that are taken by their contracts: what they give.
-/
import Derived.Test.YtaejhojielbbdaaGreatDoorPiBase
import Derived.Lib.Join
import Derived.Lib.ItoaNum
import Derived.Lib.AtoiAll
import Derived.Lib.Bytealg
set_option linter.unusedVariables false
set_option linter.unusedSimpArgs false
namespace PI
open Go (IntKind BinOp UnOp)
def strsOf : List PV → Option (List (List UInt8))
 | [] => some []
 | .str s :: r => (strsOf r).map (s :: ·)
 | _ => none
/-- strings.Join -/
def pJoin (args : List PV) (h : List PObj) : Option (PV × List PObj) :=
 match args with
 | [.list _ es, .str sep] => (strsOf es).bind fun xs => if xs.length ≤ 140737488355328 ∧ (Go.Lib.join xs sep).length ≤ 140737488355328 then some (.str (Go.Lib.join xs sep), h) else none
 | _ => none
/-- internal/stringslite.IndexByte -/
def pIndexByte (args : List PV) (h : List PObj) : Option (PV × List PObj) :=
 match args with
 | [.str s, .int .u8 c] => some (.int .i64 (Go.Lib.indexByte s c.toNat.toUInt8), h)
 | _ => none
/-- strconv.Itoa -/
def pItoa (args : List PV) (h : List PObj) : Option (PV × List PObj) :=
 match args with
 | [.int .i64 n] => if -9223372036854775808 ≤ n ∧ n ≤ 9223372036854775807 then some (.str (Go.Lib.itoa n), h) else none
 | _ => none
/-- strconv.Atoi -/
def pAtoi (args : List PV) (h : List PObj) : Option (PV × List PObj) :=
 match args with
 | [.str s] =>
   if s.length ≤ 281474976710656 then
    match Go.Lib.atoiAll s with
    | .ok v => some (.tuple [.int .i64 v, .nilIface], h)
    | Go.Lib.NumEnd.syntax => some (.tuple [.int .i64 0, .iface 0 (.cptr [])], h)
    | .range => some (.tuple [.int .i64 (Go.Lib.atoiSat s), .iface 0 (.cptr [])], h)
   else none
 | _ => none
/-- (*strings.Builder).WriteString -/
def pWriteString (args : List PV) (h : List PObj) : Option (PV × List PObj) :=
 match args with
 | [.ptr n 0, .str s] =>
   match h[n]? with
   | some (.bld bs) => if bs.length + s.length ≤ 140737488355328 then some (.tuple [.int .i64 s.length, .nilIface], h.set n (.bld (bs ++ s))) else none
   | _ => none
 | _ => none
/-- (*strings.Builder).String: the builder is not used any more -/
def pBString (args : List PV) (h : List PObj) : Option (PV × List PObj) :=
 match args with
 | [.ptr n 0] =>
   match h[n]? with
   | some (.bld bs) => some (.str bs, h.set n .gone)
   | _ => none
 | _ => none
def intsOf : List PV → Option (List Int)
 | [] => some []
 | .int .i64 n :: r => (intsOf r).map (n :: ·)
 | _ => none
/-- A sort that the kernel can run. -/
def ins {α : Type} (le : α → α → Bool) (x : α) : List α → List α
 | [] => [x]
 | y :: ys => if le x y then x :: y :: ys else y :: ins le x ys
def isort {α : Type} (le : α → α → Bool) : List α → List α
 | [] => []
 | x :: xs => ins le x (isort le xs)
theorem ins_perm {α : Type} (le : α → α → Bool) (x : α) : ∀ l, (ins le x l).Perm (x :: l)
 | [] => .refl _
 | y :: ys => by
   unfold ins
   split
   ·exact .refl _
   ·exact ((ins_perm le x ys).cons y).trans (.swap x y ys)
theorem isort_perm {α : Type} (le : α → α → Bool) : ∀ l, (isort le l).Perm l
 | [] => .refl _
 | x :: xs => (ins_perm le x _).trans ((isort_perm le xs).cons x)
theorem ins_sorted {α : Type} {le : α → α → Bool} (ht : ∀ a b c, le a b = true → le b c = true → le a c = true) (hn : ∀ a b, (le a b || le b a) = true) (x : α) : ∀ l, l.Pairwise (fun a b => le a b = true) → (ins le x l).Pairwise (fun a b => le a b = true)
 | [], _ => by simp [ins]
 | y :: ys, h => by
   unfold ins
   split
   ·rename_i hxy
    refine List.pairwise_cons.2 ⟨fun z hz => ?_, h⟩
    rcases List.mem_cons.1 hz with rfl | hz
    ·exact hxy
    ·exact ht _ _ _ hxy ((List.pairwise_cons.1 h).1 z hz)
   ·rename_i hxy
    have hyx : le y x = true := by have := hn x y; simp only [hxy, Bool.false_or] at this; exact this
    refine List.pairwise_cons.2 ⟨fun z hz => ?_, ins_sorted ht hn x ys (List.pairwise_cons.1 h).2⟩
    rcases List.mem_cons.1 ((ins_perm le x ys).mem_iff.1 hz) with rfl | hz
    ·exact hyx
    ·exact (List.pairwise_cons.1 h).1 z hz
theorem isort_sorted {α : Type} {le : α → α → Bool} (ht : ∀ a b c, le a b = true → le b c = true → le a c = true) (hn : ∀ a b, (le a b || le b a) = true) : ∀ l, (isort le l).Pairwise (fun a b => le a b = true)
 | [] => .nil
 | x :: xs => ins_sorted ht hn x _ (isort_sorted ht hn xs)
theorem isort_eq {α : Type} {le : α → α → Bool} (ht : ∀ a b c, le a b = true → le b c = true → le a c = true) (hn : ∀ a b, (le a b || le b a) = true) (ha : ∀ a b, le a b = true → le b a = true → a = b) (l : List α) : isort le l = l.mergeSort le :=
 List.Perm.eq_of_pairwise (fun a b _ _ => ha a b) (isort_sorted ht hn l) (List.pairwise_mergeSort ht hn l) ((isort_perm le l).trans (List.mergeSort_perm l le).symm)
def intLe (x y : Int) : Bool := decide (x ≤ y)
theorem isort_int (l : List Int) : isort intLe l = l.mergeSort fun x y => decide (x ≤ y) :=
 isort_eq (le := intLe) (fun a b c h1 h2 => by simp [intLe] at *; omega) (fun a b => by simp [intLe]; omega) (fun a b h1 h2 => by simp [intLe] at *; omega) l
/-- slices.Sort of ints -/
def pSortInts (args : List PV) (h : List PObj) : Option (PV × List PObj) :=
 match args with
 | [.rowp n 1 false len] =>
   match h[n]? with
   | some (.cells cs) => if len ≤ cs.length ∧ len < 4611686018427387904 then (intsOf (cs.take len)).map fun zs => (.tuple [], h.set n (.cells ((isort intLe zs).map (.int .i64 ·) ++ cs.drop len))) else none
   | _ => none
 | [.list _ []] => some (.tuple [], h)
 | _ => none
def pairsOf : List PV → Option (List (Int × Int))
 | [] => some []
 | .int .i64 a :: .int .i64 b :: r => (pairsOf r).map ((a, b) :: ·)
 | _ => none
def ePair (x : Int × Int) : List PV := [.int .i64 x.1, .int .i64 x.2]
def pairLe (x y : Int × Int) : Bool := decide (x.1 < y.1 ∨ x.1 = y.1 ∧ x.2 ≤ y.2)
theorem isort_pair (l : List (Int × Int)) : isort pairLe l = l.mergeSort pairLe :=
 isort_eq (fun a b c h1 h2 => by simp [pairLe] at *; omega) (fun a b => by simp [pairLe]; omega) (fun a b h1 h2 => by simp [pairLe] at *; exact Prod.ext (by omega) (by omega)) l
/-- slices.SortFunc of pairs of ints, by the order that the function kc says -/
def pSortPairs (kc : Nat) (args : List PV) (h : List PObj) : Option (PV × List PObj) :=
 match args with
 | [.rowp n 2 true len, .func k [] []] =>
   match h[n]? with
   | some (.cells cs) => if k = kc ∧ len * 2 ≤ cs.length ∧ len < 4611686018427387904 then (pairsOf (cs.take (len * 2))).map fun zs => (.tuple [], h.set n (.cells ((isort pairLe zs).flatMap ePair ++ cs.drop (len * 2)))) else none
   | _ => none
 | [.list _ [], _] => some (.tuple [], h)
 | _ => none
end PI
