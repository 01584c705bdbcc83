/-
  What the functions of traces come to: words, the parser.
-/
import Derived.Test.YtegahghjancjpaaDoorPiTrRun5
set_option maxRecDepth 100000
set_option linter.unusedSimpArgs false
set_option linter.unusedVariables false
namespace PI.Tr
open Go (IntKind BinOp UnOp)

/-- The words of a line. -/
def wordsOf (s : Str) : List Str := if s = [] then [] else split 32 s

/-- One step of a reading. -/
theorem read_step (s : Str) (pos : Nat) (hp : pos < s.length) :
    (((Go.Utf8.decode ⟨s.toArray⟩ pos).1 = 32 ∧ frm 32 s (pos + (Go.Utf8.decode ⟨s.toArray⟩ pos).2) = pos + 1 ∧ pcs 32 s (pos + (Go.Utf8.decode ⟨s.toArray⟩ pos).2) = pcs 32 s pos ++ [(s.take pos).drop (frm 32 s pos)]) ∨
     ((Go.Utf8.decode ⟨s.toArray⟩ pos).1 ≠ 32 ∧ frm 32 s (pos + (Go.Utf8.decode ⟨s.toArray⟩ pos).2) = frm 32 s pos ∧ pcs 32 s (pos + (Go.Utf8.decode ⟨s.toArray⟩ pos).2) = pcs 32 s pos)) ∧
    1 ≤ (Go.Utf8.decode ⟨s.toArray⟩ pos).2 ∧ pos + (Go.Utf8.decode ⟨s.toArray⟩ pos).2 ≤ s.length := by
  obtain ⟨h1, h2, h3, h4⟩ := decode_ascii' s pos hp 32 (by decide)
  refine ⟨?_, h2, h3⟩
  generalize (Go.Utf8.decode ⟨s.toArray⟩ pos).1 = r at *
  generalize (Go.Utf8.decode ⟨s.toArray⟩ pos).2 = w at *
  obtain ⟨w, rfl⟩ : ∃ m, w = m + 1 := ⟨w - 1, by omega⟩
  have hb : ∀ k, pos < k → k < pos + (w + 1) → s[k]? ≠ some (32 : UInt8) := fun k a b e => by
    have := h4 k a b _ e
    simp at this
  have e : pos + (w + 1) = (pos + 1) + w := by omega
  rw [e]
  obtain ⟨s1, s2⟩ := frm_skip 32 s (pos + 1) w (fun k a b => hb k (by omega) (by omega))
  rw [s1, s2]
  by_cases hr : r = 32
  · have hc : s[pos]? = some (32 : UInt8) := by
      rw [List.getElem?_eq_getElem hp]
      congr 1
      exact UInt8.toNat_inj.1 (by simpa using h1.1 hr)
    exact .inl ⟨hr, by simp only [frm, if_pos hc], by simp only [pcs, if_pos hc]⟩
  · have hc : s[pos]? ≠ some (32 : UInt8) := by
      rw [List.getElem?_eq_getElem hp]
      intro e
      simp at e
      exact hr (h1.2 (by rw [e]; rfl))
    exact .inr ⟨hr, by simp only [frm, if_neg hc], by simp only [pcs, if_neg hc]⟩

section
variable {L : Nat → Option PFunc} (hL : ∀ k f, Lc k = some f → L k = some f)
include hL

theorem words_loop (s : Str) (hs : s.length ≤ 2147483647) (h : List PObj) {Q : PExit → St → Prop}
    (hk : ∀ x4 x5 x7, Q (.exit 0) ⟨[.str s, .list true [], .list true ((pcs 32 s s.length).map .str), .int .i64 (frm 32 s s.length), x4, x5, .ptr h.length 0, x7], [], 0, h ++ [.siter s s.length]⟩) :
    ∀ (d pos : Nat), pos + d = s.length → ∀ x4 x5 x7, wpL L f_trace_words_l0 ⟨[.str s, .list true [], .list true ((pcs 32 s pos).map .str), .int .i64 (frm 32 s pos), x4, x5, .ptr h.length 0, x7], [], 0, h ++ [.siter s pos]⟩ Q := by
  have _ := hL
  intro d
  induction d using Nat.strongRecOn with
  | _ d ih =>
    intro pos hp x4 x5 x7
    unfold f_trace_words_l0
    rw [wpL_loop]
    by_cases hd : d = 0
    · subst hd
      have : pos = s.length := by omega
      subst this
      simp
      exact hk _ _ _
    · have hlt : pos < s.length := by omega
      obtain ⟨hst, hw1, hw2⟩ := read_step s pos hlt
      have hle := frm_le 32 s pos
      have hpl := pcs_len 32 s pos
      have hws := wrap_succ pos (by omega)
      have := ih (s.length - (pos + (Go.Utf8.decode ⟨s.toArray⟩ pos).2)) (by omega) (pos + (Go.Utf8.decode ⟨s.toArray⟩ pos).2) (by omega)
      generalize hr : (Go.Utf8.decode ⟨s.toArray⟩ pos).1 = r at *
      generalize hw : (Go.Utf8.decode ⟨s.toArray⟩ pos).2 = w at *
      rcases hst with ⟨e1, e2, e3⟩ | ⟨e1, e2, e3⟩
      · rw [e2, e3] at this
        subst e1
        have hp1 : pos ≤ s.length := by omega
        have hpl2 : (pcs 32 s pos).length ≤ 2147483647 := by omega
        simp [hlt, hr, hw, hle, hws, hp1, hpl2]
        have t := this (.int .i64 pos) (.int .i32 32) (.tuple [.bool true, .int .i64 pos, .int .i32 32])
        simp only [List.map_append, List.map_cons, List.map_nil, Int.natCast_add, Int.cast_ofNat_Int] at t
        exact t
      · rw [e2, e3] at this
        have e1' : ¬ (r : Int) = 32 := by omega
        simp [hlt, e1, e1', hr, hw]
        exact this _ _ _

theorem trace_words (s : Str) (hs : s.length ≤ 2147483647) (h : List PObj) : ∃ h', callL L 27 [.str s] h = some (.list true ((wordsOf s).map .str), h') := by
  suffices H : ∃ r, callL L 27 [.str s] h = some r ∧ r.1 = .list true ((wordsOf s).map .str) by
    obtain ⟨⟨v, h'⟩, h1, h2⟩ := H
    exact ⟨h', by rw [h1]; simp at h2; rw [h2]⟩
  refine callL_wpP (hL 27 _ rfl) rfl ?_
  by_cases h0 : s = []
  · subst h0
    simp [f_trace_words, wordsOf, endP]
  · have hle := frm_le 32 s s.length
    have hpl := pcs_len 32 s s.length
    have hpl2 : (pcs 32 s s.length).length ≤ 2147483647 := by omega
    have hsp := split_eq 32 s
    have hwd : wordsOf s = split 32 s := if_neg h0
    rw [hwd, hsp]
    simp [f_trace_words, h0]
    refine words_loop hL s hs h ?_ s.length 0 (by omega) _ _ _
    intro x4 x5 x7
    simp [hle, hpl2, endP]
end
end PI.Tr
