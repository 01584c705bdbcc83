import Derived.Test.YtegahghjancjpaaGreatDoorPiTryzPlain
import Derived.Test.YtegahghjancjpaaGreatDoorPiBuilder
set_option linter.unusedSimpArgs false
set_option linter.unusedVariables false
namespace Go.Proofs.YtegahghjancjpaaGreatDoor.Pi
open Go Go.RowKit Go.Shelf Go.Proofs PI
def ren : Ren := ⟨fun | 166 => 28 | 240 => 67 | 276 => 103 | n => n, fun | 70 => 66 | 72 => 69 | 37 => 67 | 164 => 176 | 9 => 9 | 5 => 5 | 3 => 3 | 4 => 4 | 75 => 71 | 0 => 0 | n => n, fun | n => n⟩
theorem extra : Builder.Extra Tryz.prog ren := {
  sizeBuilder := by kernel_rfl
  liesBuilder := by kernel_rfl
  t5 := Tryz.underlying5
  a5 := Tryz.isAgg5
  z5 := Tryz.sizeOf5
  v5 := Tryz.zeroValue5
  infoByte := by kernel_rfl
  cellsByte := by kernel_rfl
  sizeByte := by kernel_rfl
  neB5 := by decide }
theorem mixedT : Tryz.prog.follows .mixedOrders = true := by kernel_rfl
set_option maxHeartbeats 1000000 in
set_option maxRecDepth 100000 in
theorem cc_used (b : Nat) (w : World) (h0 : w.cell? ⟨b, 0, none⟩ = some (.pointer (some ⟨b, 0, none⟩))) :
    Calls Tryz.prog 67 #[.pointer (some ⟨b, 0, none⟩)] w fun e w' => e = .returned (.tuple #[]) ∧ w' = w := by
  obtain ⟨j, hj, _⟩ := Option.map_eq_some_iff.1 extra.sizeBuilder
  have mixed := mixedT
  have t72 := Tryz.underlying69; have a72 := Tryz.isAgg69; have z72 := Tryz.sizeOf69; have v72 := Tryz.zeroValue69; have u72 := run_underlying Tryz.underlying69
  have t70 := Tryz.underlying66; have a70 := Tryz.isAgg66; have z70 := Tryz.sizeOf66; have v70 := Tryz.zeroValue66; have u70 := run_underlying Tryz.underlying66
  have t4 := Tryz.underlying4; have a4 := Tryz.isAgg4; have z4 := Tryz.sizeOf4; have v4 := Tryz.zeroValue4; have u4 := run_underlying Tryz.underlying4
  have t164 := Tryz.underlying176; have a164 := Tryz.isAgg176; have z164 := Tryz.sizeOf176; have v164 := Tryz.zeroValue176; have u164 := run_underlying Tryz.underlying176
  have hnt : Tryz.f67.ntmps = 20 := by kernel_rfl
  go_enter Tryz.func67, hnt
  go_wp2
  rw [Lib.run_neq_ptr_same w _ Tryz.underlying66 hj]
  go_wp2
  go_end0
  exact ⟨rfl, rfl⟩
set_option maxHeartbeats 1000000 in
set_option maxRecDepth 100000 in
theorem cc_fresh (b : Nat) (w : World) (h0 : w.cell? ⟨b, 0, none⟩ = some (.pointer none)) (hsh : w.shape? b = some (69, 2)) (hfz : w.frozen? ⟨b, 0, none⟩ = false) :
    Calls Tryz.prog 67 #[.pointer (some ⟨b, 0, none⟩)] w fun e w' => e = .returned (.tuple #[]) ∧ w' = w.setCell ⟨b, 0, none⟩ (.pointer (some ⟨b, 0, none⟩)) := by
  obtain ⟨j, hj, hjs⟩ := Option.map_eq_some_iff.1 extra.sizeBuilder
  have mixed := mixedT
  have t72 := Tryz.underlying69; have a72 := Tryz.isAgg69; have z72 := Tryz.sizeOf69; have v72 := Tryz.zeroValue69; have u72 := run_underlying Tryz.underlying69
  have t70 := Tryz.underlying66; have a70 := Tryz.isAgg66; have z70 := Tryz.sizeOf66; have v70 := Tryz.zeroValue66; have u70 := run_underlying Tryz.underlying66
  have t4 := Tryz.underlying4; have a4 := Tryz.isAgg4; have z4 := Tryz.sizeOf4; have v4 := Tryz.zeroValue4; have u4 := run_underlying Tryz.underlying4
  have t164 := Tryz.underlying176; have a164 := Tryz.isAgg176; have z164 := Tryz.sizeOf176; have v164 := Tryz.zeroValue176; have u164 := run_underlying Tryz.underlying176
  have hnt : Tryz.f67.ntmps = 20 := by kernel_rfl
  go_enter Tryz.func67, hnt
  go_wp2
  rw [Lib.run_to_unsafe w ⟨b, 0, none⟩ Tryz.underlying66 Tryz.underlying176 hj (by rw [hjs]; decide) hsh (Nat.zero_lt_succ 1)]
  simp only [Result.andThen]
  rw [Oper.upon_value]
  go_wp2
  rw [run_callFunc_extern Tryz.func103 (by kernel_rfl) (by kernel_rfl) (by kernel_rfl) (e := Extern.AbiNoEscape.same) (by kernel_rfl)]
  rw [Lib.run_noEscape]
  simp only [Result.andThen]
  rw [Oper.upon_value]
  go_wp2
  rw [Lib.run_from_unsafe w ⟨b, 0, none⟩ Tryz.underlying176 Tryz.underlying66 hj hsh extra.liesBuilder]
  simp only [Result.andThen]
  rw [Oper.upon_value]
  go_wp2
  go_end0
  exact ⟨rfl, rfl⟩
theorem w166 : W166 Tryz.prog ren := {
  mixed := mixedT
  f166 := Tryz.func28.trans (congrArg some (by kernel_rfl))
  t72 := Tryz.underlying69
  a72 := Tryz.isAgg69
  z72 := Tryz.sizeOf69
  v72 := Tryz.zeroValue69
  t70 := Tryz.underlying66
  a70 := Tryz.isAgg66
  z70 := Tryz.sizeOf66
  v70 := Tryz.zeroValue66
  t37 := Tryz.underlying67
  a37 := Tryz.isAgg67
  z37 := Tryz.sizeOf67
  v37 := Tryz.zeroValue67
  t3 := Tryz.underlying3
  a3 := Tryz.isAgg3
  z3 := Tryz.sizeOf3
  v3 := Tryz.zeroValue3
  t9 := Tryz.underlying9
  a9 := Tryz.isAgg9
  z9 := Tryz.sizeOf9
  v9 := Tryz.zeroValue9
  t4 := Tryz.underlying4
  a4 := Tryz.isAgg4
  z4 := Tryz.sizeOf4
  v4 := Tryz.zeroValue4
  e240 := enters_of Tryz.func67 (by kernel_rfl) rfl
  fresh := cc_fresh
  used := cc_used }
end Go.Proofs.YtegahghjancjpaaGreatDoor.Pi
