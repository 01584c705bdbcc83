import Derived.Test.YtegahghjancjpaaGreatDoorPiTrRun18
import Derived.Test.YtegahghjancjpaaGreatDoorPiCtCode
set_option linter.unusedSimpArgs false
namespace PI.Ct
open Go (IntKind BinOp UnOp)
open Tr
abbrev L : Nat → Option PFunc := LX
theorem LX_z : ∀ k f, Tr.LZ k = some f → L k = some f := by
  intro k f h
  unfold Tr.LZ at h
  split at h <;> first | exact h | simp at h
theorem LX_t : ∀ k f, Tr.Lc k = some f → L k = some f := fun k f h => LX_z k f (Tr.LZ_c k f h)
end PI.Ct
