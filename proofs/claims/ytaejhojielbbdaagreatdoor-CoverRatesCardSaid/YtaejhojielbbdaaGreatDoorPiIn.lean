/-
  The machine's rules at the wide fence, in a function's frame or in a round's.
-/
import Derived.Test.YtaejhojielbbdaaGreatDoorPiOrd2
import Derived.RangeFuncLeaves
import Derived.RangeFuncIn
import Derived.LoopNIn
import Derived.OrdersIn
set_option linter.unusedSimpArgs false
set_option linter.unusedVariables false
set_option linter.unusedSectionVars false
namespace PI
open Go
/-- Every machine; a function's frame (none), or a round's. -/
def W (r : Option Nat) : Fence := { Fence.wide with round := r }
section
variable {P : Program} {r : Option Nat} {n : Nat} {ops : Array Oper} {Q : Exit → Act → World → Prop}
theorem W_fn (f : FuncId) : (W r).fn f := trivial
theorem W_room (k : Nat) : (W r).room k := fun d h => by simp [W, Fence.wide] at h
theorem W_depth : (W r).depth.isSome = true → 1 ≤ n := fun h => by simp [W, Fence.wide] at h
theorem callsW {f : FuncId} {args : Array Value} {w : World} {R : Ending → World → Prop} (h : Calls P f args w R) : CallsIn (W r) n P f args w R := (callsIn_wide (n := n)).2 h
theorem calls_of_W {f : FuncId} {args : Array Value} {w : World} {R : Ending → World → Prop} (h : CallsIn (W r) n P f args w R) : Calls P f args w R := (callsIn_wide (n := n)).1 h
theorem rowsW {row : String} {args : Array Value} {w : World} {R : Value → World → Prop} (h : Rows P row args w R) : RowsIn (W r) n P row args w R :=
 fun c cs _ => let ⟨v, w', hr, hs⟩ := h c cs; ⟨v, w', hr, stepsIn_wide.2 hs⟩
theorem opIn_of {o : Oper} {a : Act} {w : World} {K : Act → World → Prop} (hd : ∀ c, o.op ≠ .defer c) (h : o.wp P a w K Q) : o.wpIn (W r) n P a w K Q := by
 refine ⟨fun _ _ => W_fn _, ?_⟩
 rw [Oper.semAt_eq _ _ _ hd]
 unfold Oper.wp at h
 generalize (execOp a.eval o).run P w = res at h
 cases res with
 | ok x w' =>
   cases x <;> simp only [Oper.upon] at h <;> simp only [Oper.uponIn] <;> first | exact h | exact ⟨W_depth, callsW h⟩ | exact ⟨W_depth, rowsW h⟩ | exact h.elim
 | halt x w' => cases x <;> simp only [Oper.upon] at h <;> simp only [Oper.uponIn] <;> first | exact h | exact h.elim
theorem wpOpIn_of {i : Nat} {a : Act} {w : World} {K : Act → World → Prop} (hd : ∀ o c, ops[i]? = some o → o.op ≠ .defer c) (hQ : ¬ LetsOut Q) (h : wpOp P ops Q i K a w) : wpOpIn (W r) n P ops Q i K a w := by
 unfold wpOp at h
 unfold wpOpIn
 split
 ·rename_i ho; simp only [ho] at h; exact h
 ·rename_i o ho
  simp only [ho] at h
  split
  ·rename_i hw
   simp only [hw, if_true] at h
   rcases h with h | h
   ·exact opIn_of (fun c => hd o c ho) h
   ·exact absurd h.2 hQ
  ·rename_i hw
   simp only [hw] at h
   exact ⟨fun _ _ => W_fn _, h⟩
theorem wpOpsIn_of (hd : ∀ (i : Nat) o c, ops[i]? = some o → o.op ≠ .defer c) (hQ : ¬ LetsOut Q) : ∀ {l : List Nat} {a : Act} {w : World}, wpOps P ops Q l a w → wpOpsIn (W r) n P ops Q l a w
 | [], _, _, h => h
 | i :: l, a, w, h => by
   rw [wpOps_cons] at h
   rw [wpOpsIn_cons]
   exact wpOpIn_mono (fun a w h => wpOpsIn_of hd hQ h) (wpOpIn_of (fun o c => hd i o c) hQ h)
/-! ### Rounds that may panic -/
def roundPostP (P : Program) (l : Nat) (R : Ending → World → Prop) : Exit → Act → World → Prop
 | .normal, _, w => ∃ v w', (Instr.endRound l none).run P w = .ok v w' ∧ R (.returned v) w'
 | .ret, _, w => ∃ v w', (Instr.endRound l (some .ret)).run P w = .ok v w' ∧ R (.returned v) w'
 | .exit id, _, w => ∃ v w', (Instr.endRound l (some (.exit id))).run P w = .ok v w' ∧ R (.returned v) w'
 | .panic chain, a, w => a.defers = [] ∧ R (.panicked chain) w
 | _, _, _ => False
theorem fencedW (m : Machine) : m.fenced P (W r) := fenced_wide P m
theorem step_round_panic {fr c : Frame} {cs : List Frame} {w : World} {chain : List PanicEntry} {fn : Func} (hm : fr.mode = .panicking chain) (hd : fr.defers = []) (hf : P.funcs[fr.fn]? = some fn) :
  step P (lone fr (c :: cs) w) = .next (lone (c.raise chain) cs w) :=
 step_lone_go (by simp [stepG, unwind, Frame.catches, hm, hd, hf])
end
end PI
