import Derived.Test.YtljbhgpanekomaaGreatDoorPiScSpec
import Derived.Test.YtljbhgpanekomaaGreatDoorPiScCode
import Derived.Test.YtljbhgpanekomaaGreatDoorPiWp
set_option maxRecDepth 100000
set_option linter.unusedSimpArgs false
set_option linter.unusedVariables false
namespace PI.Sc
open Go (IntKind BinOp UnOp)
theorem list_eq {α : Type} {a b : List α} (hl : a.length = b.length) (h : ∀ k, k < a.length → a[k]? = b[k]?) : a = b := by
 apply List.ext_getElem?
 intro k
 by_cases hk : k < a.length
 ·exact h k hk
 ·rw [List.getElem?_eq_none (by omega), List.getElem?_eq_none (by omega)]
end PI.Sc
set_option maxRecDepth 100000
set_option linter.unusedSimpArgs false
set_option linter.unusedVariables false
namespace PI.Sc
open Go (IntKind BinOp UnOp)
@[simp] theorem zeroEnum : PV.agg [.str [], .list false []] = eEnum ⟨[], []⟩ := rfl
end PI.Sc
set_option linter.unusedSimpArgs false
set_option linter.unusedVariables false
namespace PI
open Go (IntKind BinOp UnOp)
section
variable {L : Nat → Option PFunc} {V l : List PV} {g : Nat} {h : List PObj} {Q : PExit → St → Prop}
def overOf (st : St) : Option (Out × List PObj) → Option (PExit × St)
 | some (.val _, h') => match h'[st.heap.length]? with
   | some (.loop true) => some (.normal, { st with heap := h'.set st.heap.length .gone })
   | some (.over (some id)) => some (.exit id, { st with heap := h'.set st.heap.length .gone })
   | some (.over none) => some (.ret, { st with heap := h'.set st.heap.length .gone })
   | _ => none
 | some (.boom v, h') => some (.boom v, { st with heap := h' })
 | none => none
theorem evL_rangeF {x : PX} {kb : Nat} {caps : List PX} {st : St} {k : Nat} {first captured cs : List PV} (hx : rd st x = some (.func k first captured)) (hc : rdAll st caps = some cs) (hn : noRound L k = true) :
  evL L (.rangeF x kb caps) st = overOf st (outL L k (first ++ .func kb (.ptr st.heap.length 0 :: cs) [] :: captured) (st.heap ++ [.loop true])) := by
 refine opt_ext fun r => ?_
 rw [evL_step]
 simp only [exec, hx, hc, hn, Bool.true_eq_false, if_false]
 constructor
 ·rintro ⟨n, h⟩
  split at h
  ·rename_i h1
   have h2 : outL L k (first ++ .func kb (.ptr st.heap.length 0 :: cs) [] :: captured) (st.heap ++ [.loop true]) = _ := outL_iff.2 ⟨n, h1⟩
   rw [h2]; exact h
  ·rename_i h1
   have h2 : outL L k (first ++ .func kb (.ptr st.heap.length 0 :: cs) [] :: captured) (st.heap ++ [.loop true]) = _ := outL_iff.2 ⟨n, h1⟩
   rw [h2]; exact h
  ·simp at h
 ·intro h
  cases ho : outL L k (first ++ .func kb (.ptr st.heap.length 0 :: cs) [] :: captured) (st.heap ++ [.loop true]) with
  | none => rw [ho] at h; simp [overOf] at h
  | some p =>
    obtain ⟨n, hn⟩ := outL_iff.1 ho
    refine ⟨n, ?_⟩
    rw [ho] at h
    have hn' : outWith (exec L n) L k (first ++ .func kb (.ptr st.heap.length 0 :: cs) [] :: captured) (st.heap ++ [.loop true]) = some p := hn
    rw [hn']
    obtain ⟨o, h'⟩ := p
    cases o <;> exact h
def overK (V l : List PV) (g n : Nat) (Q : PExit → St → Prop) : Out × List PObj → Prop
 | (.val _, h') => match h'[n]? with
   | some (.loop true) => Q .normal ⟨V, l, g, h'.set n .gone⟩
   | some (.over (some id)) => Q (.exit id) ⟨V, l, g, h'.set n .gone⟩
   | some (.over none) => Q .ret ⟨V, l, g, h'.set n .gone⟩
   | _ => False
 | (.boom v, h') => Q (.boom v) ⟨V, l, g, h'⟩
theorem wpL_rangeF {x : PX} {kb : Nat} {caps : List PX} {k : Nat} {first captured cs : List PV} {r : Out × List PObj} (hx : rd ⟨V, l, g, h⟩ x = some (.func k first captured)) (hc : rdAll ⟨V, l, g, h⟩ caps = some cs) (hn : noRound L k = true)
  (ho : outL L k (first ++ .func kb (.ptr h.length 0 :: cs) [] :: captured) (h ++ [.loop true]) = some r) (hq : overK V l g h.length Q r) : wpL L (.rangeF x kb caps) ⟨V, l, g, h⟩ Q := by
 have he := evL_rangeF (kb := kb) (st := ⟨V, l, g, h⟩) hx hc hn
 simp only at he
 rw [ho] at he
 obtain ⟨o, h'⟩ := r
 unfold wpL
 rw [he]
 cases o with
 | boom v => exact hq
 | val v =>
   simp only [overK] at hq
   simp only [overOf]
   split at hq <;> first | exact hq.elim | skip
   all_goals (rename_i h1; simp only [h1]; exact hq)
def roundB (n : Nat) (r : Out × List PObj) : PExit → St → Prop
 | .normal, st => st.heap[n]? = some (.loop false) ∧ r = (.val (.bool true), st.heap.set n (.loop true))
 | .boom v, st => r = (.boom v, st.heap)
 | .exit id, st => st.heap[n]? = some (.loop false) ∧ r = (.val (.bool false), st.heap.set n (.over (some id)))
 | .ret, st => st.heap[n]? = some (.loop false) ∧ r = (.val (.bool false), st.heap.set n (.over none))
 | .after .., _ => False
@[simp] theorem roundB_normal (n : Nat) (r : Out × List PObj) : roundB n r .normal ⟨V, l, g, h⟩ = (h[n]? = some (.loop false) ∧ r = (.val (.bool true), h.set n (.loop true))) := rfl
@[simp] theorem roundB_boom (n : Nat) (r : Out × List PObj) (v : PV) : roundB n r (.boom v) ⟨V, l, g, h⟩ = (r = (.boom v, h)) := rfl
@[simp] theorem roundB_exit (n : Nat) (r : Out × List PObj) (id : Nat) : roundB n r (.exit id) ⟨V, l, g, h⟩ = (h[n]? = some (.loop false) ∧ r = (.val (.bool false), h.set n (.over (some id)))) := rfl
@[simp] theorem roundB_ret (n : Nat) (r : Out × List PObj) : roundB n r .ret ⟨V, l, g, h⟩ = (h[n]? = some (.loop false) ∧ r = (.val (.bool false), h.set n (.over none))) := rfl
def roundA (L : Nat → Option PFunc) (b : PC) (n : Nat) (r : Out × List PObj) : PExit → St → Prop
 | .normal, st => st.heap[n]? = some (.loop true) ∧ wpL L b { st with heap := st.heap.set n (.loop false) } (roundB n r)
 | _, _ => False
@[simp] theorem roundA_normal (b : PC) (n : Nat) (r : Out × List PObj) : roundA L b n r .normal ⟨V, l, g, h⟩ = (h[n]? = some (.loop true) ∧ wpL L b ⟨V, l, g, h.set n (.loop false)⟩ (roundB n r)) := rfl
end
end PI
