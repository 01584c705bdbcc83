import Derived.Test.YtegahghjancjpaaGreatDoorPiCtSeat
namespace Go.Proofs.YtegahghjancjpaaGreatDoor.Pi
open Go PI
theorem recOk303 (tabs : List (Nat × Nat × Value)) (rows : List (Nat × TypeId × Nat)) (errT : Nat) : DfrOK (N0 tabs rows errT) Tryz.prog 303 (pRec 1) := by
  refine rec_ok (E := E.opt { hs := [0, 1], sr := true }) ((envOk tabs rows errT).opt _) rfl mixed rfl (fn := Tryz.f58) (tA := 20) (T := 112) Tryz.func58 rfl rfl rfl ⟨_, rfl⟩ rfl rfl rfl rfl rfl rfl rfl (by kernel_rfl) (by kernel_rfl) rfl (by kernel_rfl) rfl (by kernel_rfl) (by kernel_rfl)
theorem recOk305 (tabs : List (Nat × Nat × Value)) (rows : List (Nat × TypeId × Nat)) (errT : Nat) : DfrOK (N0 tabs rows errT) Tryz.prog 305 (pRec 2) := by
  refine rec_ok (E := E.opt { hs := [0, 1], sr := true }) ((envOk tabs rows errT).opt _) rfl mixed rfl (fn := Tryz.f84) (tA := 20) (T := 154) Tryz.func84 rfl rfl rfl ⟨_, rfl⟩ rfl rfl rfl rfl rfl rfl rfl (by kernel_rfl) (by kernel_rfl) rfl (by kernel_rfl) rfl (by kernel_rfl) (by kernel_rfl)
end Go.Proofs.YtegahghjancjpaaGreatDoor.Pi
