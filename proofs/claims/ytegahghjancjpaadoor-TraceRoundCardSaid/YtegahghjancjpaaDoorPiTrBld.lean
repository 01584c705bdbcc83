/-
  strings.Builder's WriteString in the seat's program: copyCheck walked, its panic being refused by the translation.
-/
import Derived.Test.YtegahghjancjpaaDoorPiTrydPlain
import Derived.Test.YtegahghjancjpaaDoorPiBuilder
set_option linter.unusedSimpArgs false
set_option linter.unusedVariables false
namespace Go.Proofs.YtegahghjancjpaaDoor.Pi
open Go Go.RowKit Go.Shelf Go.Proofs PI

def ren : Ren := ⟨fun | 166 => 25 | 240 => 39 | 276 => 50 | n => n, fun | 70 => 63 | 72 => 66 | 37 => 64 | 164 => 99 | 9 => 9 | 5 => 5 | 3 => 3 | 4 => 4 | 75 => 68 | 0 => 0 | n => n, fun | n => n⟩

theorem extra : Builder.Extra Tryd.prog ren := {
  sizeBuilder := by kernel_rfl
  liesBuilder := by kernel_rfl
  t5 := Tryd.underlying5
  a5 := Tryd.isAgg5
  z5 := Tryd.sizeOf5
  v5 := Tryd.zeroValue5
  infoByte := by kernel_rfl
  cellsByte := by kernel_rfl
  sizeByte := by kernel_rfl
  neB5 := by decide }

theorem mixedT : Tryd.prog.follows .mixedOrders = true := by kernel_rfl

set_option maxHeartbeats 1000000 in
set_option maxRecDepth 100000 in
theorem cc_used (b : Nat) (w : World) (h0 : w.cell? ⟨b, 0, none⟩ = some (.pointer (some ⟨b, 0, none⟩))) :
    Calls Tryd.prog 39 #[.pointer (some ⟨b, 0, none⟩)] w fun e w' => e = .returned (.tuple #[]) ∧ w' = w := by
  obtain ⟨j, hj, _⟩ := Option.map_eq_some_iff.1 extra.sizeBuilder
  have mixed := mixedT
  have t72 := Tryd.underlying66; have a72 := Tryd.isAgg66; have z72 := Tryd.sizeOf66; have v72 := Tryd.zeroValue66; have u72 := run_underlying Tryd.underlying66
  have t70 := Tryd.underlying63; have a70 := Tryd.isAgg63; have z70 := Tryd.sizeOf63; have v70 := Tryd.zeroValue63; have u70 := run_underlying Tryd.underlying63
  have t4 := Tryd.underlying4; have a4 := Tryd.isAgg4; have z4 := Tryd.sizeOf4; have v4 := Tryd.zeroValue4; have u4 := run_underlying Tryd.underlying4
  have t164 := Tryd.underlying99; have a164 := Tryd.isAgg99; have z164 := Tryd.sizeOf99; have v164 := Tryd.zeroValue99; have u164 := run_underlying Tryd.underlying99
  have hnt : Tryd.f39.ntmps = 20 := by kernel_rfl
  go_enter Tryd.func39, hnt
  go_wp2
  rw [Lib.run_neq_ptr_same w _ Tryd.underlying63 hj]
  go_wp2
  go_end0
  exact ⟨rfl, rfl⟩

set_option maxHeartbeats 1000000 in
set_option maxRecDepth 100000 in
theorem cc_fresh (b : Nat) (w : World) (h0 : w.cell? ⟨b, 0, none⟩ = some (.pointer none)) (hsh : w.shape? b = some (66, 2)) (hfz : w.frozen? ⟨b, 0, none⟩ = false) :
    Calls Tryd.prog 39 #[.pointer (some ⟨b, 0, none⟩)] w fun e w' => e = .returned (.tuple #[]) ∧ w' = w.setCell ⟨b, 0, none⟩ (.pointer (some ⟨b, 0, none⟩)) := by
  obtain ⟨j, hj, hjs⟩ := Option.map_eq_some_iff.1 extra.sizeBuilder
  have mixed := mixedT
  have t72 := Tryd.underlying66; have a72 := Tryd.isAgg66; have z72 := Tryd.sizeOf66; have v72 := Tryd.zeroValue66; have u72 := run_underlying Tryd.underlying66
  have t70 := Tryd.underlying63; have a70 := Tryd.isAgg63; have z70 := Tryd.sizeOf63; have v70 := Tryd.zeroValue63; have u70 := run_underlying Tryd.underlying63
  have t4 := Tryd.underlying4; have a4 := Tryd.isAgg4; have z4 := Tryd.sizeOf4; have v4 := Tryd.zeroValue4; have u4 := run_underlying Tryd.underlying4
  have t164 := Tryd.underlying99; have a164 := Tryd.isAgg99; have z164 := Tryd.sizeOf99; have v164 := Tryd.zeroValue99; have u164 := run_underlying Tryd.underlying99
  have hnt : Tryd.f39.ntmps = 20 := by kernel_rfl
  go_enter Tryd.func39, hnt
  go_wp2
  rw [Lib.run_to_unsafe w ⟨b, 0, none⟩ Tryd.underlying63 Tryd.underlying99 hj (by rw [hjs]; decide) hsh (Nat.zero_lt_succ 1)]
  simp only [Result.andThen]
  rw [Oper.upon_value]
  go_wp2
  rw [run_callFunc_extern Tryd.func50 (by kernel_rfl) (by kernel_rfl) (by kernel_rfl) (e := Extern.AbiNoEscape.same) (by kernel_rfl)]
  rw [Lib.run_noEscape]
  simp only [Result.andThen]
  rw [Oper.upon_value]
  go_wp2
  rw [Lib.run_from_unsafe w ⟨b, 0, none⟩ Tryd.underlying99 Tryd.underlying63 hj hsh extra.liesBuilder]
  simp only [Result.andThen]
  rw [Oper.upon_value]
  go_wp2
  go_end0
  exact ⟨rfl, rfl⟩

theorem w166 : W166 Tryd.prog ren := {
  mixed := mixedT
  f166 := Tryd.func25.trans (congrArg some (by kernel_rfl))
  t72 := Tryd.underlying66
  a72 := Tryd.isAgg66
  z72 := Tryd.sizeOf66
  v72 := Tryd.zeroValue66
  t70 := Tryd.underlying63
  a70 := Tryd.isAgg63
  z70 := Tryd.sizeOf63
  v70 := Tryd.zeroValue63
  t37 := Tryd.underlying64
  a37 := Tryd.isAgg64
  z37 := Tryd.sizeOf64
  v37 := Tryd.zeroValue64
  t3 := Tryd.underlying3
  a3 := Tryd.isAgg3
  z3 := Tryd.sizeOf3
  v3 := Tryd.zeroValue3
  t9 := Tryd.underlying9
  a9 := Tryd.isAgg9
  z9 := Tryd.sizeOf9
  v9 := Tryd.zeroValue9
  t4 := Tryd.underlying4
  a4 := Tryd.isAgg4
  z4 := Tryd.sizeOf4
  v4 := Tryd.zeroValue4
  e240 := enters_of Tryd.func39 (by kernel_rfl) rfl
  fresh := cc_fresh
  used := cc_used }
end Go.Proofs.YtegahghjancjpaaDoor.Pi
