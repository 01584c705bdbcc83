import Derived.Test.YtegahghjancjpaaGreatDoorPiTrRun5
set_option maxRecDepth 100000
set_option linter.unusedSimpArgs false
set_option linter.unusedVariables false
namespace PI.Tr
theorem join_cons2 (c : UInt8) (x y : Str) (r : List Str) : Go.Lib.join (x :: y :: r) [c] = x ++ c :: Go.Lib.join (y :: r) [c] := by
  rw [Go.Lib.join_cons, Go.Lib.join_cons]
  simp [Go.Lib.joinTail]
theorem join_lines : ∀ ls : List Str, Go.Lib.join (ls ++ [[]]) [10] = (ls.map (· ++ [10])).flatten
  | [] => by simp [Go.Lib.join_one]
  | [x] => by simp [join_cons2, Go.Lib.join_one]
  | x :: y :: r => by
    have ih := join_lines (y :: r)
    simp only [List.cons_append] at ih ⊢
    rw [join_cons2, ih]; simp
theorem typed_at (en : List Enum) (l : List Str) (cols : List Decl) : ∀ (i k : Nat) (hk : k < cols.length), (typed en l cols i)[k]? = some (if k < i then ⟨cols[k].name, (typeOf en (l.getD k [])).getD 0, cols[k].clock⟩ else cols[k])
  | 0, k, hk => by simp [typed, hk]
  | i + 1, k, hk => by
    have ih := typed_at en l cols i k hk
    simp only [typed, List.getElem?_modify]
    rw [ih]
    by_cases h1 : i = k
    · subst h1
      simp
    · by_cases h2 : k < i
      · simp [h1, h2, show k < i + 1 by omega]
      · simp [h1, h2, show ¬ k < i + 1 by omega]
theorem names_ok {l : List Str} (h : namesErr l = 0) : l.length ≤ 384 ∧ ∀ k (hk : k < l.length), ident l[k] = true ∧ l[k] ∉ l.take k := by
  unfold namesErr at h
  split at h
  · simp at h
  · rename_i h1
    refine ⟨by omega, ?_⟩
    intro k hk
    have := firstErr_zero h k hk
    simp only [nameErr, List.getD, List.getElem?_eq_getElem hk, Option.getD_some] at this
    cases hx : ident l[k] with
    | false => rw [hx] at this; simp at this
    | true =>
      rw [if_neg (by simp [hx])] at this
      refine ⟨rfl, ?_⟩
      intro hm; rw [if_pos hm] at this; simp at this
end PI.Tr
