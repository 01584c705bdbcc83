import Derived.Test.YtegahghjancjpaaGreatDoorPiTrData
set_option linter.unusedSimpArgs false
set_option linter.unusedVariables false
namespace PI.Tr
open Go (IntKind BinOp UnOp)
def split (c : UInt8) : Str → List Str
  | [] => [[]]
  | b :: r => if b = c then [] :: split c r else (match split c r with | w :: ws => (b :: w) :: ws | [] => [[b]])
theorem split_ne (c : UInt8) (s : Str) : split c s ≠ [] := by
  cases s with
  | nil => simp [split]
  | cons b r =>
    simp only [split]
    split
    · simp
    · split <;> simp
theorem split_cut (c : UInt8) : ∀ (a r : Str), c ∉ a → split c (a ++ c :: r) = a :: split c r
  | [], r, _ => by simp [split]
  | b :: a, r, h => by
    simp only [List.mem_cons, not_or] at h
    have : ¬ b = c := fun e => h.1 e.symm
    simp only [List.cons_append, split, if_neg this, split_cut c a r h.2]
theorem split_no (c : UInt8) : ∀ (a : Str), c ∉ a → split c a = [a]
  | [], _ => rfl
  | b :: a, h => by
    simp only [List.mem_cons, not_or] at h
    have : ¬ b = c := fun e => h.1 e.symm
    simp only [split, if_neg this, split_no c a h.2]
def frm (c : UInt8) (s : Str) : Nat → Nat
  | 0 => 0
  | i + 1 => if s[i]? = some c then i + 1 else frm c s i
def pcs (c : UInt8) (s : Str) : Nat → List Str
  | 0 => []
  | i + 1 => if s[i]? = some c then pcs c s i ++ [(s.take i).drop (frm c s i)] else pcs c s i
theorem frm_le (c : UInt8) (s : Str) : ∀ i, frm c s i ≤ i
  | 0 => Nat.le_refl _
  | i + 1 => by
    simp only [frm]
    split
    · exact Nat.le_refl _
    · exact Nat.le_succ_of_le (frm_le c s i)
theorem frm_free (c : UInt8) (s : Str) : ∀ i k, frm c s i ≤ k → k < i → s[k]? ≠ some c
  | 0, k, _, h => absurd h (Nat.not_lt_zero k)
  | i + 1, k, h1, h2 => by
    simp only [frm] at h1
    split at h1
    · omega
    · rename_i hne
      by_cases hk : k = i
      · subst hk; exact hne
      · exact frm_free c s i k h1 (by omega)
theorem pcs_len (c : UInt8) (s : Str) : ∀ i, (pcs c s i).length ≤ i
  | 0 => Nat.le_refl _
  | i + 1 => by
    have := pcs_len c s i
    simp only [pcs]
    split
    · simp; omega
    · omega
theorem split_pcs (c : UInt8) (s : Str) : ∀ i, i ≤ s.length → split c s = pcs c s i ++ split c (s.drop (frm c s i))
  | 0, _ => by simp [pcs, frm]
  | i + 1, h => by
    have ih := split_pcs c s i (by omega)
    have hi : i < s.length := by omega
    simp only [pcs, frm]
    by_cases hc : s[i]? = some c
    · rw [if_pos hc, if_pos hc, ih]
      have hle := frm_le c s i
      have e : s.drop (frm c s i) = (s.take i).drop (frm c s i) ++ c :: s.drop (i + 1) := by
        have h1 : s = s.take i ++ (c :: s.drop (i + 1)) := by
          have h2 : s.drop i = c :: s.drop (i + 1) := by
            rw [List.drop_eq_getElem_cons hi]
            rw [List.getElem?_eq_getElem hi] at hc
            simp at hc; rw [hc]
          rw [← h2, List.take_append_drop]
        generalize frm c s i = f at hle ⊢
        have h3 : s.drop f = (s.take i ++ c :: s.drop (i + 1)).drop f := congrArg (List.drop f) h1
        rw [h3, List.drop_append_of_le_length (by simp; omega)]
      rw [e, split_cut]
      · simp
      · intro hm
        obtain ⟨k, hk, he⟩ := List.mem_iff_getElem.1 hm
        simp at hk he
        refine frm_free c s i (frm c s i + k) (by omega) (by omega) ?_
        rw [List.getElem?_eq_getElem (by omega)]
        rw [he]
    · rw [if_neg hc, if_neg hc]; exact ih
theorem split_eq (c : UInt8) (s : Str) : split c s = pcs c s s.length ++ [s.drop (frm c s s.length)] := by
  rw [split_pcs c s s.length (Nat.le_refl _)]
  congr 1
  apply split_no
  intro hm
  obtain ⟨k, hk, he⟩ := List.mem_iff_getElem.1 hm
  simp at hk he
  refine frm_free c s s.length (frm c s s.length + k) (by omega) (by omega) ?_
  rw [List.getElem?_eq_getElem (by omega), he]
theorem frm_skip (c : UInt8) (s : Str) (i : Nat) : ∀ j, (∀ k, i ≤ k → k < i + j → s[k]? ≠ some c) → frm c s (i + j) = frm c s i ∧ pcs c s (i + j) = pcs c s i
  | 0, _ => ⟨rfl, rfl⟩
  | j + 1, h => by
    obtain ⟨h1, h2⟩ := frm_skip c s i j (fun k a b => h k a (by omega))
    have hn := h (i + j) (by omega) (by omega)
    rw [← Nat.add_assoc]
    simp only [frm, pcs, if_neg hn]
    exact ⟨h1, h2⟩
theorem decode_ascii' (s : Str) (pos : Nat) (hp : pos < s.length) (c : Nat) (hc : c < 128) :
    ((Go.Utf8.decode ⟨s.toArray⟩ pos).1 = c ↔ (s[pos]'hp).toNat = c) ∧ 1 ≤ (Go.Utf8.decode ⟨s.toArray⟩ pos).2 ∧ pos + (Go.Utf8.decode ⟨s.toArray⟩ pos).2 ≤ s.length ∧
    (∀ k, pos < k → k < pos + (Go.Utf8.decode ⟨s.toArray⟩ pos).2 → ∀ b, s[k]? = some b → 128 ≤ b.toNat) := by
  have hsz : (⟨s.toArray⟩ : ByteArray).size = s.length := by simp [ByteArray.size]
  have hat : ∀ k, k < s.length → (⟨s.toArray⟩ : ByteArray).get! k = s.getD k 0 := by
    intro k hk
    simp [ByteArray.get!, hk, List.getD]
  have hat0 : ((⟨s.toArray⟩ : ByteArray).get! (pos + 0)).toNat = (s[pos]'hp).toNat := by rw [Nat.add_zero, hat pos hp]; simp [List.getD, hp]
  have cont : ∀ k, (decide (pos + k < (⟨s.toArray⟩ : ByteArray).size) && ((⟨s.toArray⟩ : ByteArray).get! (pos + k)).toNat / 64 == 2) = true → pos + k < s.length ∧ ∀ b, s[pos + k]? = some b → 128 ≤ b.toNat := by
    intro k h
    simp only [Bool.and_eq_true, decide_eq_true_eq, beq_iff_eq, hsz] at h
    refine ⟨h.1, ?_⟩
    intro b hb
    have h2 := h.2
    rw [hat _ h.1] at h2
    have : s.getD (pos + k) 0 = b := by simp [List.getD, hb]
    rw [this] at h2
    omega
  unfold Go.Utf8.decode
  simp only [hat0]
  have one : ∀ r : Nat, (r = c ↔ (s[pos]'hp).toNat = c) → ((r, 1) : Nat × Nat).1 = c ∧ True ∨ True := fun _ _ => .inr trivial
  split
  · rename_i h
    exact ⟨Iff.rfl, Nat.le_refl _, by omega, fun k a b => absurd b (by omega)⟩
  · rename_i h0
    have hb : 128 ≤ (s[pos]'hp).toNat := by omega
    have bad : ((65533, 1) : Nat × Nat).1 = c ↔ (s[pos]'hp).toNat = c := by constructor <;> intro e <;> (try simp at e) <;> omega
    have no : ∀ r : Nat, 128 ≤ r → (r = c ↔ (s[pos]'hp).toNat = c) := by intro r hr; constructor <;> intro e <;> omega
    have step : ∀ k, pos < k → k < pos + 1 → ∀ b, s[k]? = some b → 128 ≤ b.toNat := by intro k a b; omega
    split
    · rename_i h1
      simp only [Bool.and_eq_true] at h1
      obtain ⟨c1, d1⟩ := cont 1 (by simpa using h1.2)
      split
      · rename_i hc'
        exact ⟨no _ hc', by simp, by simp; omega, fun k a b e he => by
          have : k = pos + 1 := by simp at b; omega
          subst this; exact d1 e he⟩
      · exact ⟨bad, Nat.le_refl _, by simp; omega, step⟩
    · split
      · rename_i h1
        simp only [Bool.and_eq_true] at h1
        obtain ⟨c1, d1⟩ := cont 1 (by simpa using h1.1.2)
        obtain ⟨c2, d2⟩ := cont 2 (by simpa using h1.2)
        split
        · rename_i hc'
          simp only [Bool.and_eq_true, decide_eq_true_eq] at hc'
          refine ⟨no _ (by omega), by simp, by simp; omega, fun k a b e he => ?_⟩
          have : k = pos + 1 ∨ k = pos + 2 := by simp at b; omega
          rcases this with rfl | rfl
          · exact d1 e he
          · exact d2 e he
        · exact ⟨bad, Nat.le_refl _, by simp; omega, step⟩
      · split
        · rename_i h1
          simp only [Bool.and_eq_true] at h1
          obtain ⟨c1, d1⟩ := cont 1 (by simpa using h1.1.1.2)
          obtain ⟨c2, d2⟩ := cont 2 (by simpa using h1.1.2)
          obtain ⟨c3, d3⟩ := cont 3 (by simpa using h1.2)
          split
          · rename_i hc'
            simp only [Bool.and_eq_true, decide_eq_true_eq] at hc'
            refine ⟨no _ (by omega), by simp, by simp; omega, fun k a b e he => ?_⟩
            have : k = pos + 1 ∨ k = pos + 2 ∨ k = pos + 3 := by simp at b; omega
            rcases this with rfl | rfl | rfl
            · exact d1 e he
            · exact d2 e he
            · exact d3 e he
          · exact ⟨bad, Nat.le_refl _, by simp; omega, step⟩
        · exact ⟨bad, Nat.le_refl _, by simp; omega, step⟩
end PI.Tr
