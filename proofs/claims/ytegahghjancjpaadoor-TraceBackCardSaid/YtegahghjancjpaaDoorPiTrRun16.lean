/-
  The law TraceBack, run.
-/
import Derived.Test.YtegahghjancjpaaDoorPiTrLaw1
set_option maxRecDepth 100000
set_option linter.unusedSimpArgs false
set_option linter.unusedVariables false
namespace PI.Tr
open Go (IntKind BinOp UnOp)

section
variable {L : Nat → Option PFunc} (hL : ∀ k f, LD k = some f → L k = some f)
include hL

theorem law_back (en : List Enum) (hen : EOK en) (s : Str) (o : Bool) (h : List PObj) : callL L 1 [.list o (en.map eEnum), .str s] h = some (.bool true, h) := by
  have hLc : ∀ k f, Lc k = some f → L k = some f := fun k f hk => hL k f (LD_c k f hk)
  have haw := law_awake hLc []
  refine callL_wp (hL 1 _ rfl) rfl ?_
  by_cases h1 : 6000 < s.length
  · have h1' : (6000 : Int) < s.length := by omega
    simp [f_law43_TraceBack, h1', haw]
  · have h1' : ¬ (6000 : Int) < s.length := by omega
    obtain ⟨h2, hp⟩ := trace_parse hLc en hen s (by omega) false []
    generalize hpe : parse en s = P at hp
    obtain ⟨t, i, e⟩ := P
    simp only at hp
    by_cases he : e = 0
    · subst he
      obtain ⟨k1, k2, k3, _, k4⟩ := parse_ok hen hpe
      obtain ⟨h3, htx⟩ := trace_text hLc en t k3 (by rw [k2]; omega) false []
      obtain ⟨h4, hck⟩ := trace_check hLc en t k3 false []
      have htt : textOf en t = (s, 0) := by unfold textOf; rw [if_pos k1, k2]
      rw [htt] at htx
      rw [k1] at hck
      simp at htx
      simp [f_law43_TraceBack, h1', hp, htx, hck, haw]
    · simp [f_law43_TraceBack, h1', hp, he, haw]
end
end PI.Tr
