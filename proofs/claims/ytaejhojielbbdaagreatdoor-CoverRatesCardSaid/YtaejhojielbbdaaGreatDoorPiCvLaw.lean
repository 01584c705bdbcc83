/-
  CoverRates in the pure interpreter: the rate counts, and the law returns true.
-/
import Derived.Test.YtaejhojielbbdaaGreatDoorPiCvTab
import Derived.Test.YtaejhojielbbdaaGreatDoorPiSimpH
import Derived.Test.YtaejhojielbbdaaGreatDoorPiWp
set_option maxRecDepth 100000
set_option linter.unusedSimpArgs false
set_option linter.unusedVariables false
namespace PI.Sc
open Go (IntKind BinOp UnOp)
attribute [simp] loadFrom setElems setParts
@[simp] theorem cells_bool (b : Bool) : (PV.bool b).cells = [.bool b] := rfl
@[simp] theorem cells_int (k : IntKind) (n : Int) : (PV.int k n).cells = [.int k n] := rfl
@[simp] theorem flat_bool (b : Bool) : (PV.bool b).flat = true := rfl
@[simp] theorem binv_int (op : BinOp) (h1 : op ≠ .shl) (h2 : op ≠ .shr) (k : IntKind) (a b : Int) : binv op (.int k a) (.int k b) = intBin op k a b := by cases op <;> simp_all [binv]
theorem frees_bools (l : List Bool) : refFrees (l.map PV.bool) = true := by induction l <;> simp_all [refFrees, refFree]
theorem wrap_one {i : Nat} (h : i ≤ 2000) : IntKind.i64.wrap ((i : Int) + 1) = ((i + 1 : Nat) : Int) := by
 show (if (true && decide (((i : Int) + 1) % 18446744073709551616 ≥ 9223372036854775808)) = true then ((i : Int) + 1) % 18446744073709551616 - 18446744073709551616 else ((i : Int) + 1) % 18446744073709551616) = _
 simp only [Bool.true_and, decide_eq_true_eq]
 split <;> omega
theorem take_one {α : Type} {l : List α} {i : Nat} (h : i < l.length) : l.take (i + 1) = l.take i ++ [l[i]] := by simp
theorem rate_cover (bs : List Bool) (hb : bs.length ≤ 1000) (o : Bool) (h : List PObj) : callL LC 2 [.list o (bs.map .bool)] h = some (.tuple [.int .i64 (bs.countP id : Nat), .int .i64 bs.length], h) := by
 refine callL_wp rfl rfl ?_
 simp [f_cover_Rate, f_cover_Rate_l0]
 refine loop_go bs.length (fun i (x : PV) => [(1, .int .i64 ((bs.take i).countP id : Nat)), (3, x), (6, .int .i64 i)]) (fun _ _ => h) .dead ?_ ?_ (by simp) rfl
 ·intro i hi x ih
  have hw := wrap_one (i := i) (by omega)
  have ih := ih
  rw [take_one hi, List.countP_append] at ih
  have hle : (bs.take i).countP id ≤ i := by
   have := List.countP_le_length (p := id) (l := bs.take i)
   simp at this ⊢; omega
  generalize (bs.take i).countP id = a at *
  have hw2 := wrap_one (i := a) (by omega)
  cases hk : bs[i] with
  | true =>
    have ih := ih (.bool true)
    simp [hk] at ih
    simp [hi, hw, hk, hw2]
    simpa using ih
  | false =>
    have ih := ih (.bool false)
    simp [hk] at ih
    simp [hi, hw, hk]
    simpa using ih
 ·intro _
  simp
theorem rate_ref (bs : List Bool) (hb : bs.length ≤ 1000) (o : Bool) (h : List PObj) : callL LC 3 [.list o (bs.map .bool)] h = some (.tuple [.int .i64 (bs.countP id : Nat), .int .i64 bs.length], h) := by
 refine callL_wp rfl rfl ?_
 simp [f_ref45_Rate, f_ref45_Rate_l0]
 refine loop_go bs.length (fun i (_ : Unit) => [(1, .int .i64 ((bs.take i).countP id : Nat)), (3, .int .i64 i)]) (fun _ _ => h) () ?_ ?_ (by simp) rfl
 ·intro i hi _ ih
  have hw := wrap_one (i := i) (by omega)
  have ih := ih ()
  rw [take_one hi, List.countP_append] at ih
  have hle : (bs.take i).countP id ≤ i := by
   have := List.countP_le_length (p := id) (l := bs.take i)
   simp at this ⊢; omega
  generalize (bs.take i).countP id = a at *
  have hw2 := wrap_one (i := a) (by omega)
  cases hk : bs[i] with
  | true =>
    simp [hk] at ih
    simp [hi, hw, hk, hw2]
    simpa using ih
  | false =>
    simp [hk] at ih
    simp [hi, hw, hk]
    simpa using ih
 ·intro _
  simp
theorem law_run (bs : List Bool) (o : Bool) : ∃ h', callL LC 0 [.list o (bs.map .bool)] [] = some (.bool true, h') := by
 obtain ⟨m, hl, hr⟩ := lives_call
 have hv : callL LC 1 [] [] = some (.bool true, hl) := callL_iff.2 ⟨m, hr⟩
 refine ⟨[], callL_wp rfl rfl ?_⟩
 by_cases hb : bs.length ≤ 1000
 ·have h1 := rate_cover bs hb
  have h2 := rate_ref bs hb
  have hn : ¬ (bs.length : Int) > 1000 := by omega
  simp [f_law45_CoverRates, h1, h2, hv, hn, hb, frees_bools, refFrees, refFree]
 ·have hn : (bs.length : Int) > 1000 := by omega
  simp [f_law45_CoverRates, hv, hn, frees_bools, refFrees, refFree]
end PI.Sc
