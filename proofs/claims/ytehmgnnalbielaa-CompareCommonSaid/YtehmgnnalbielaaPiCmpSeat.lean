/-
  The functions stand in the translated program. Written by program (mk.py).
-/
import Derived.Test.YtehmgnnalbielaaChecked
import Derived.Test.YtehmgnnalbielaaPiLaw2
import Derived.Test.YtehmgnnalbielaaPiCmpCode
import Derived.KernelRfl
set_option maxRecDepth 100000
namespace Go.Proofs.Ytehmgnnalbielaa.Pi
open Go PI

def tab : List Nat := [3, 4, 5, 6, 7, 8, 9, 10, 11, 12, 13, 14, 15, 16, 17, 18, 19, 20, 21, 22, 23, 24, 25, 26, 27, 28, 29, 30, 31, 32, 33, 34, 35, 36, 37, 38, 39, 40, 41, 42, 43, 44, 45, 46, 47, 48, 49, 50, 51, 1000000, 1000000, 1000000, 1000000, 1000000, 1000000, 1000000, 1000000]
noncomputable def E : Env := { P := Try.prog, inv := fun f => idxIn f tab 0, tinv := fun _ => none }
def N : Nm := { fn := fun k => tab.getD k 0, ty := fun t => t }
theorem envOk : EnvOk E N := ⟨fun f k h => by
  obtain ⟨_, h2⟩ := idxIn_some (show idxIn f tab 0 = some k from h)
  show tab.getD k 0 = f
  rw [List.getD_eq_getElem?_getD, show tab[k]? = some f by simpa using h2]; rfl⟩
theorem mixed : Try.prog.follows .mixedOrders = true := by kernel_rfl

theorem c0 : (Try.f3.body.bind fun c => compC (E.opt ⟨[], [], []⟩) Try.f3.ntmps [0, 1, 2, 3, 4, 5, 6, 7, 8, 9, 10, 13] c) = some PI.Cmp.f_law44_CompareFirsts.code := by kernel_rfl
theorem o0 : FnC E N 0 PI.Cmp.f_law44_CompareFirsts Try.f3 [0, 1, 2, 3, 4, 5, 6, 7, 8, 9, 10, 13] := ⟨Try.func3, by decide, by decide, by decide, rfl, by decide, by decide, ⟨_, c0⟩, by kernel_rfl⟩
theorem c1 : (Try.f4.body.bind fun c => compC (E.opt ⟨[], [], []⟩) Try.f4.ntmps [0, 1, 2, 4, 5, 6, 7, 8] c) = some PI.Cmp.f_law44_CompareProjects.code := by kernel_rfl
theorem o1 : FnC E N 1 PI.Cmp.f_law44_CompareProjects Try.f4 [0, 1, 2, 4, 5, 6, 7, 8] := ⟨Try.func4, by decide, by decide, by decide, rfl, by decide, by decide, ⟨_, c1⟩, by kernel_rfl⟩
theorem c2 : (Try.f5.body.bind fun c => compC (E.opt ⟨[], [], []⟩) Try.f5.ntmps [0, 1, 2, 3, 4, 5, 6, 7, 8] c) = some PI.Cmp.f_law44_CompareAppends.code := by kernel_rfl
theorem o2 : FnC E N 2 PI.Cmp.f_law44_CompareAppends Try.f5 [0, 1, 2, 3, 4, 5, 6, 7, 8] := ⟨Try.func5, by decide, by decide, by decide, rfl, by decide, by decide, ⟨_, c2⟩, by kernel_rfl⟩
theorem c3 : (Try.f6.body.bind fun c => compC (E.opt ⟨[], [], []⟩) Try.f6.ntmps [0, 1, 2, 3, 4, 5, 6, 7, 8, 9, 10, 11, 12, 13, 14] c) = some PI.Cmp.f_law44_CompareCommon.code := by kernel_rfl
theorem o3 : FnC E N 3 PI.Cmp.f_law44_CompareCommon Try.f6 [0, 1, 2, 3, 4, 5, 6, 7, 8, 9, 10, 11, 12, 13, 14] := ⟨Try.func6, by decide, by decide, by decide, rfl, by decide, by decide, ⟨_, c3⟩, by kernel_rfl⟩
theorem c4 : (Try.f7.body.bind fun c => compC (E.opt ⟨[], [], []⟩) Try.f7.ntmps [0, 1, 2, 3, 4] c) = some PI.Cmp.f_law44_huge.code := by kernel_rfl
theorem o4 : FnC E N 4 PI.Cmp.f_law44_huge Try.f7 [0, 1, 2, 3, 4] := ⟨Try.func7, by decide, by decide, by decide, rfl, by decide, by decide, ⟨_, c4⟩, by kernel_rfl⟩
theorem c5 : (Try.f8.body.bind fun c => compC (E.opt ⟨[], [], []⟩) Try.f8.ntmps [0, 1, 2, 3, 4, 5, 6, 9, 10, 11, 12, 13] c) = some PI.Cmp.f_law44_awake.code := by kernel_rfl
theorem o5 : FnC E N 5 PI.Cmp.f_law44_awake Try.f8 [0, 1, 2, 3, 4, 5, 6, 9, 10, 11, 12, 13] := ⟨Try.func8, by decide, by decide, by decide, rfl, by decide, by decide, ⟨_, c5⟩, by kernel_rfl⟩
theorem c6 : (Try.f9.body.bind fun c => compC (E.opt ⟨[], [], []⟩) Try.f9.ntmps [0, 1, 2, 3, 4] c) = some PI.Cmp.f_compare_Same.code := by kernel_rfl
theorem o6 : FnC E N 6 PI.Cmp.f_compare_Same Try.f9 [0, 1, 2, 3, 4] := ⟨Try.func9, by decide, by decide, by decide, rfl, by decide, by decide, ⟨_, c6⟩, by kernel_rfl⟩
theorem c7 : (Try.f10.body.bind fun c => compC (E.opt ⟨[], [], []⟩) Try.f10.ntmps [0, 1, 2, 3, 4] c) = some PI.Cmp.f_ref44_Same.code := by kernel_rfl
theorem o7 : FnC E N 7 PI.Cmp.f_ref44_Same Try.f10 [0, 1, 2, 3, 4] := ⟨Try.func10, by decide, by decide, by decide, rfl, by decide, by decide, ⟨_, c7⟩, by kernel_rfl⟩
theorem c8 : (Try.f11.body.bind fun c => compC (E.opt ⟨[], [], []⟩) Try.f11.ntmps [0, 1, 4, 5] c) = some PI.Cmp.f_ref06_SameNames.code := by kernel_rfl
theorem o8 : FnC E N 8 PI.Cmp.f_ref06_SameNames Try.f11 [0, 1, 4, 5] := ⟨Try.func11, by decide, by decide, by decide, rfl, by decide, by decide, ⟨_, c8⟩, by kernel_rfl⟩
theorem c9 : (Try.f12.body.bind fun c => compC (E.opt ⟨[], [28], []⟩) Try.f12.ntmps [0, 1, 2, 3, 4, 5, 6, 8, 10, 14, 15, 16] c) = some PI.Cmp.f_compare_Common.code := by kernel_rfl
theorem o9 : FnC E N 9 PI.Cmp.f_compare_Common Try.f12 [0, 1, 2, 3, 4, 5, 6, 8, 10, 14, 15, 16] := ⟨Try.func12, by decide, by decide, by decide, rfl, by decide, by decide, ⟨_, c9⟩, by kernel_rfl⟩
theorem c10 : (Try.f13.body.bind fun c => compC (E.opt ⟨[], [], []⟩) Try.f13.ntmps [0, 1, 2, 3, 4, 5, 6, 7] c) = some PI.Cmp.f_ref44_Common.code := by kernel_rfl
theorem o10 : FnC E N 10 PI.Cmp.f_ref44_Common Try.f13 [0, 1, 2, 3, 4, 5, 6, 7] := ⟨Try.func13, by decide, by decide, by decide, rfl, by decide, by decide, ⟨_, c10⟩, by kernel_rfl⟩
theorem c11 : (Try.f14.body.bind fun c => compC (E.opt ⟨[], [28], []⟩) Try.f14.ntmps [0, 1, 2, 3, 4, 5, 6, 7, 8, 9, 10, 11, 13, 31, 32, 35, 36, 37] c) = some PI.Cmp.f_compare_First.code := by kernel_rfl
theorem o11 : FnC E N 11 PI.Cmp.f_compare_First Try.f14 [0, 1, 2, 3, 4, 5, 6, 7, 8, 9, 10, 11, 13, 31, 32, 35, 36, 37] := ⟨Try.func14, by decide, by decide, by decide, rfl, by decide, by decide, ⟨_, c11⟩, by kernel_rfl⟩
theorem c12 : (Try.f15.body.bind fun c => compC (E.opt ⟨[], [], []⟩) Try.f15.ntmps [0, 1, 2, 3, 4, 5, 6, 7, 8, 9] c) = some PI.Cmp.f_ref44_First.code := by kernel_rfl
theorem o12 : FnC E N 12 PI.Cmp.f_ref44_First Try.f15 [0, 1, 2, 3, 4, 5, 6, 7, 8, 9] := ⟨Try.func15, by decide, by decide, by decide, rfl, by decide, by decide, ⟨_, c12⟩, by kernel_rfl⟩
theorem c13 : (Try.f16.body.bind fun c => compC (E.opt ⟨[], [28], []⟩) Try.f16.ntmps [0, 1, 2, 4, 5, 6, 7, 9, 10, 11, 13, 14, 16, 19, 20, 21, 47, 48, 49, 53, 54, 55] c) = some PI.Cmp.f_compare_Project.code := by kernel_rfl
theorem o13 : FnC E N 13 PI.Cmp.f_compare_Project Try.f16 [0, 1, 2, 4, 5, 6, 7, 9, 10, 11, 13, 14, 16, 19, 20, 21, 47, 48, 49, 53, 54, 55] := ⟨Try.func16, by decide, by decide, by decide, rfl, by decide, by decide, ⟨_, c13⟩, by kernel_rfl⟩
theorem c14 : (Try.f17.body.bind fun c => compC (E.opt ⟨[], [], []⟩) Try.f17.ntmps [0, 1, 2, 4, 5, 6, 7, 8, 9, 10, 11] c) = some PI.Cmp.f_ref44_Project.code := by kernel_rfl
theorem o14 : FnC E N 14 PI.Cmp.f_ref44_Project Try.f17 [0, 1, 2, 4, 5, 6, 7, 8, 9, 10, 11] := ⟨Try.func17, by decide, by decide, by decide, rfl, by decide, by decide, ⟨_, c14⟩, by kernel_rfl⟩
theorem c15 : (Try.f18.body.bind fun c => compC (E.opt ⟨[], [], []⟩) Try.f18.ntmps [0, 1, 2, 3, 4, 5, 6, 8, 10, 12, 32, 33, 34, 50, 51, 54, 55, 56] c) = some PI.Cmp.f_compare_Append.code := by kernel_rfl
theorem o15 : FnC E N 15 PI.Cmp.f_compare_Append Try.f18 [0, 1, 2, 3, 4, 5, 6, 8, 10, 12, 32, 33, 34, 50, 51, 54, 55, 56] := ⟨Try.func18, by decide, by decide, by decide, rfl, by decide, by decide, ⟨_, c15⟩, by kernel_rfl⟩
theorem c16 : (Try.f19.body.bind fun c => compC (E.opt ⟨[], [], []⟩) Try.f19.ntmps [0, 1, 2, 3, 4, 5, 6] c) = some PI.Cmp.f_ref44_Append.code := by kernel_rfl
theorem o16 : FnC E N 16 PI.Cmp.f_ref44_Append Try.f19 [0, 1, 2, 3, 4, 5, 6] := ⟨Try.func19, by decide, by decide, by decide, rfl, by decide, by decide, ⟨_, c16⟩, by kernel_rfl⟩
theorem c17 : (Try.f20.body.bind fun c => compC (E.opt ⟨[], [], []⟩) Try.f20.ntmps [0, 1, 2, 3, 4] c) = some PI.Cmp.f_compare_Prefix.code := by kernel_rfl
theorem o17 : FnC E N 17 PI.Cmp.f_compare_Prefix Try.f20 [0, 1, 2, 3, 4] := ⟨Try.func20, by decide, by decide, by decide, rfl, by decide, by decide, ⟨_, c17⟩, by kernel_rfl⟩
theorem c18 : (Try.f21.body.bind fun c => compC (E.opt ⟨[], [], []⟩) Try.f21.ntmps [0, 1, 2, 3, 4] c) = some PI.Cmp.f_ref44_Prefix.code := by kernel_rfl
theorem o18 : FnC E N 18 PI.Cmp.f_ref44_Prefix Try.f21 [0, 1, 2, 3, 4] := ⟨Try.func21, by decide, by decide, by decide, rfl, by decide, by decide, ⟨_, c18⟩, by kernel_rfl⟩
theorem c19 : (Try.f22.body.bind fun c => compC (E.opt ⟨[], [], []⟩) Try.f22.ntmps [0, 1, 4, 5] c) = some PI.Cmp.f_ref17_Tables.code := by kernel_rfl
theorem o19 : FnC E N 19 PI.Cmp.f_ref17_Tables Try.f22 [0, 1, 4, 5] := ⟨Try.func22, by decide, by decide, by decide, rfl, by decide, by decide, ⟨_, c19⟩, by kernel_rfl⟩
theorem c20 : (Try.f23.body.bind fun c => compC (E.opt ⟨[], [], []⟩) Try.f23.ntmps [0, 1, 2, 4, 5, 6, 7, 8] c) = some PI.Cmp.f_ref10_Weigh.code := by kernel_rfl
theorem o20 : FnC E N 20 PI.Cmp.f_ref10_Weigh Try.f23 [0, 1, 2, 4, 5, 6, 7, 8] := ⟨Try.func23, by decide, by decide, by decide, rfl, by decide, by decide, ⟨_, c20⟩, by kernel_rfl⟩
theorem c21 : (Try.f24.body.bind fun c => compC (E.opt ⟨[], [], []⟩) Try.f24.ntmps [0, 1, 4, 5, 6] c) = some PI.Cmp.f_law44_column.code := by kernel_rfl
theorem o21 : FnC E N 21 PI.Cmp.f_law44_column Try.f24 [0, 1, 4, 5, 6] := ⟨Try.func24, by decide, by decide, by decide, rfl, by decide, by decide, ⟨_, c21⟩, by kernel_rfl⟩
theorem c22 : (Try.f25.body.bind fun c => compC (E.opt ⟨[], [], []⟩) Try.f25.ntmps [0, 1, 4] c) = some PI.Cmp.f_compare_same.code := by kernel_rfl
theorem o22 : FnC E N 22 PI.Cmp.f_compare_same Try.f25 [0, 1, 4] := ⟨Try.func25, by decide, by decide, by decide, rfl, by decide, by decide, ⟨_, c22⟩, by kernel_rfl⟩
theorem c23 : (Try.f26.body.bind fun c => compC (E.opt ⟨[], [], []⟩) Try.f26.ntmps [0, 1, 4] c) = some PI.Cmp.f_compare_equal.code := by kernel_rfl
theorem o23 : FnC E N 23 PI.Cmp.f_compare_equal Try.f26 [0, 1, 4] := ⟨Try.func26, by decide, by decide, by decide, rfl, by decide, by decide, ⟨_, c23⟩, by kernel_rfl⟩
theorem c24 : (Try.f27.body.bind fun c => compC (E.opt ⟨[], [], []⟩) Try.f27.ntmps [0, 1, 4, 5] c) = some PI.Cmp.f_ref07_Decls.code := by kernel_rfl
theorem o24 : FnC E N 24 PI.Cmp.f_ref07_Decls Try.f27 [0, 1, 4, 5] := ⟨Try.func27, by decide, by decide, by decide, rfl, by decide, by decide, ⟨_, c24⟩, by kernel_rfl⟩
theorem c25 : (Try.f28.body.bind fun c => compC (E.opt ⟨[], [], []⟩) Try.f28.ntmps [0, 1, 2, 3, 4, 5, 7, 10, 11, 12] c) = some PI.Cmp.f_compare_columns.code := by kernel_rfl
theorem o25 : FnC E N 25 PI.Cmp.f_compare_columns Try.f28 [0, 1, 2, 3, 4, 5, 7, 10, 11, 12] := ⟨Try.func28, by decide, by decide, by decide, rfl, by decide, by decide, ⟨_, c25⟩, by kernel_rfl⟩
theorem c26 : (Try.f29.body.bind fun c => compC (E.opt ⟨[], [], []⟩) Try.f29.ntmps [0, 1, 4] c) = some PI.Cmp.f_slices_Contains_string.code := by kernel_rfl
theorem o26 : FnC E N 26 PI.Cmp.f_slices_Contains_string Try.f29 [0, 1, 4] := ⟨Try.func29, by decide, by decide, by decide, rfl, by decide, by decide, ⟨_, c26⟩, by kernel_rfl⟩
theorem c27 : (Try.f30.body.bind fun c => compC (E.opt ⟨[], [], []⟩) Try.f30.ntmps [0, 1, 2, 4, 5] c) = some PI.Cmp.f_ref44_column.code := by kernel_rfl
theorem o27 : FnC E N 27 PI.Cmp.f_ref44_column Try.f30 [0, 1, 2, 4, 5] := ⟨Try.func30, by decide, by decide, by decide, rfl, by decide, by decide, ⟨_, c27⟩, by kernel_rfl⟩
theorem c28 : (Try.f31.body.bind fun c => compC (E.opt ⟨[], [], []⟩) Try.f31.ntmps [0, 1, 4, 5] c) = some PI.Cmp.f_ref44_has.code := by kernel_rfl
theorem o28 : FnC E N 28 PI.Cmp.f_ref44_has Try.f31 [0, 1, 4, 5] := ⟨Try.func31, by decide, by decide, by decide, rfl, by decide, by decide, ⟨_, c28⟩, by kernel_rfl⟩
theorem c29 : (Try.f32.body.bind fun c => compC (E.opt ⟨[], [], []⟩) Try.f32.ntmps [0, 1, 4] c) = some PI.Cmp.f_compare_cell.code := by kernel_rfl
theorem o29 : FnC E N 29 PI.Cmp.f_compare_cell Try.f32 [0, 1, 4] := ⟨Try.func32, by decide, by decide, by decide, rfl, by decide, by decide, ⟨_, c29⟩, by kernel_rfl⟩
theorem c30 : (Try.f33.body.bind fun c => compC (E.opt ⟨[], [], []⟩) Try.f33.ntmps [0, 1, 2, 3, 6, 7] c) = some PI.Cmp.f_ref44_cell.code := by kernel_rfl
theorem o30 : FnC E N 30 PI.Cmp.f_ref44_cell Try.f33 [0, 1, 2, 3, 6, 7] := ⟨Try.func33, by decide, by decide, by decide, rfl, by decide, by decide, ⟨_, c30⟩, by kernel_rfl⟩
theorem c31 : (Try.f34.body.bind fun c => compC (E.opt ⟨[], [], []⟩) Try.f34.ntmps [0, 1, 2] c) = some PI.Cmp.f_compare_copied.code := by kernel_rfl
theorem o31 : FnC E N 31 PI.Cmp.f_compare_copied Try.f34 [0, 1, 2] := ⟨Try.func34, by decide, by decide, by decide, rfl, by decide, by decide, ⟨_, c31⟩, by kernel_rfl⟩
theorem c32 : (Try.f35.body.bind fun c => compC (E.opt ⟨[], [], []⟩) Try.f35.ntmps [0, 2] c) = some PI.Cmp.f_slices_Clone_api_Cell.code := by kernel_rfl
theorem o32 : FnC E N 32 PI.Cmp.f_slices_Clone_api_Cell Try.f35 [0, 2] := ⟨Try.func35, by decide, by decide, by decide, rfl, by decide, by decide, ⟨_, c32⟩, by kernel_rfl⟩
theorem c33 : (Try.f36.body.bind fun c => compC (E.opt ⟨[], [], []⟩) Try.f36.ntmps [0, 1, 4, 5] c) = some PI.Cmp.f_ref17_Cells.code := by kernel_rfl
theorem o33 : FnC E N 33 PI.Cmp.f_ref17_Cells Try.f36 [0, 1, 4, 5] := ⟨Try.func36, by decide, by decide, by decide, rfl, by decide, by decide, ⟨_, c33⟩, by kernel_rfl⟩
theorem c34 : (Try.f37.body.bind fun c => compC (E.opt ⟨[], [], []⟩) Try.f37.ntmps [0, 1, 4, 5, 6] c) = some PI.Cmp.f_ref10_weighDecls.code := by kernel_rfl
theorem o34 : FnC E N 34 PI.Cmp.f_ref10_weighDecls Try.f37 [0, 1, 4, 5, 6] := ⟨Try.func37, by decide, by decide, by decide, rfl, by decide, by decide, ⟨_, c34⟩, by kernel_rfl⟩
theorem c35 : (Try.f38.body.bind fun c => compC (E.opt ⟨[], [], []⟩) Try.f38.ntmps [0, 1, 4, 5, 6] c) = some PI.Cmp.f_ref10_weighEqs.code := by kernel_rfl
theorem o35 : FnC E N 35 PI.Cmp.f_ref10_weighEqs Try.f38 [0, 1, 4, 5, 6] := ⟨Try.func38, by decide, by decide, by decide, rfl, by decide, by decide, ⟨_, c35⟩, by kernel_rfl⟩
theorem c36 : (Try.f39.body.bind fun c => compC (E.opt ⟨[], [], []⟩) Try.f39.ntmps [0, 1, 4, 5, 6] c) = some PI.Cmp.f_ref10_weighExprs.code := by kernel_rfl
theorem o36 : FnC E N 36 PI.Cmp.f_ref10_weighExprs Try.f39 [0, 1, 4, 5, 6] := ⟨Try.func39, by decide, by decide, by decide, rfl, by decide, by decide, ⟨_, c36⟩, by kernel_rfl⟩
theorem c37 : (Try.f40.body.bind fun c => compC (E.opt ⟨[], [], []⟩) Try.f40.ntmps [0, 1, 4, 5, 6, 7, 8] c) = some PI.Cmp.f_ref10_weighAutos.code := by kernel_rfl
theorem o37 : FnC E N 37 PI.Cmp.f_ref10_weighAutos Try.f40 [0, 1, 4, 5, 6, 7, 8] := ⟨Try.func40, by decide, by decide, by decide, rfl, by decide, by decide, ⟨_, c37⟩, by kernel_rfl⟩
theorem c38 : (Try.f41.body.bind fun c => compC (E.opt ⟨[], [], [26]⟩) Try.f41.ntmps [0, 1, 2, 6, 7, 8, 9, 15, 16, 17] c) = some PI.Cmp.f_slices_EqualFunc_api_Decl.code := by kernel_rfl
theorem o38 : FnC E N 38 PI.Cmp.f_slices_EqualFunc_api_Decl Try.f41 [0, 1, 2, 6, 7, 8, 9, 15, 16, 17] := ⟨Try.func41, by decide, by decide, by decide, rfl, by decide, by decide, ⟨_, c38⟩, by kernel_rfl⟩
theorem c39 : (Try.f42.body.bind fun c => compC (E.opt ⟨[], [], []⟩) Try.f42.ntmps [0, 1, 2, 3, 4] c) = some PI.Cmp.f_compare_same_1.code := by kernel_rfl
theorem o39 : FnC E N 39 PI.Cmp.f_compare_same_1 Try.f42 [0, 1, 2, 3, 4] := ⟨Try.func42, by decide, by decide, by decide, rfl, by decide, by decide, ⟨_, c39⟩, by kernel_rfl⟩
theorem c40 : (Try.f43.body.bind fun c => compC (E.opt ⟨[], [], []⟩) Try.f43.ntmps [0, 1, 4, 5, 12, 13] c) = some PI.Cmp.f_slices_Equal_api_On.code := by kernel_rfl
theorem o40 : FnC E N 40 PI.Cmp.f_slices_Equal_api_On Try.f43 [0, 1, 4, 5, 12, 13] := ⟨Try.func43, by decide, by decide, by decide, rfl, by decide, by decide, ⟨_, c40⟩, by kernel_rfl⟩
theorem c41 : (Try.f44.body.bind fun c => compC (E.opt ⟨[], [], [26]⟩) Try.f44.ntmps [0, 1, 2, 6, 7, 8, 9, 15, 16, 17] c) = some PI.Cmp.f_slices_EqualFunc_api_Cell.code := by kernel_rfl
theorem o41 : FnC E N 41 PI.Cmp.f_slices_EqualFunc_api_Cell Try.f44 [0, 1, 2, 6, 7, 8, 9, 15, 16, 17] := ⟨Try.func44, by decide, by decide, by decide, rfl, by decide, by decide, ⟨_, c41⟩, by kernel_rfl⟩
theorem c42 : (Try.f45.body.bind fun c => compC (E.opt ⟨[], [], []⟩) Try.f45.ntmps [0, 1, 4] c) = some PI.Cmp.f_compare_equal_1.code := by kernel_rfl
theorem o42 : FnC E N 42 PI.Cmp.f_compare_equal_1 Try.f45 [0, 1, 4] := ⟨Try.func45, by decide, by decide, by decide, rfl, by decide, by decide, ⟨_, c42⟩, by kernel_rfl⟩
theorem c43 : (Try.f46.body.bind fun c => compC (E.opt ⟨[], [], []⟩) Try.f46.ntmps [0, 1, 4, 5, 12, 13] c) = some PI.Cmp.f_slices_Equal_api_Cell.code := by kernel_rfl
theorem o43 : FnC E N 43 PI.Cmp.f_slices_Equal_api_Cell Try.f46 [0, 1, 4, 5, 12, 13] := ⟨Try.func46, by decide, by decide, by decide, rfl, by decide, by decide, ⟨_, c43⟩, by kernel_rfl⟩
theorem c44 : (Try.f47.body.bind fun c => compC (E.opt ⟨[], [], []⟩) Try.f47.ntmps [0, 1, 4, 5] c) = some PI.Cmp.f_ref07_Clocks.code := by kernel_rfl
theorem o44 : FnC E N 44 PI.Cmp.f_ref07_Clocks Try.f47 [0, 1, 4, 5] := ⟨Try.func47, by decide, by decide, by decide, rfl, by decide, by decide, ⟨_, c44⟩, by kernel_rfl⟩
theorem c45 : (Try.f48.body.bind fun c => compC (E.opt ⟨[], [], []⟩) Try.f48.ntmps [0, 1, 4, 5, 7, 8] c) = some PI.Cmp.f_slices_Index_string.code := by kernel_rfl
theorem o45 : FnC E N 45 PI.Cmp.f_slices_Index_string Try.f48 [0, 1, 4, 5, 7, 8] := ⟨Try.func48, by decide, by decide, by decide, rfl, by decide, by decide, ⟨_, c45⟩, by kernel_rfl⟩
theorem c46 : (Try.f49.body.bind fun c => compC (E.opt ⟨[], [], []⟩) Try.f49.ntmps [0, 2] c) = some PI.Cmp.f_slices_Clone_api_On.code := by kernel_rfl
theorem o46 : FnC E N 46 PI.Cmp.f_slices_Clone_api_On Try.f49 [0, 2] := ⟨Try.func49, by decide, by decide, by decide, rfl, by decide, by decide, ⟨_, c46⟩, by kernel_rfl⟩
theorem c47 : (Try.f50.body.bind fun c => compC (E.opt ⟨[], [], []⟩) Try.f50.ntmps [0, 1, 2, 4, 5, 6] c) = some PI.Cmp.f_ref06_Weigh.code := by kernel_rfl
theorem o47 : FnC E N 47 PI.Cmp.f_ref06_Weigh Try.f50 [0, 1, 2, 4, 5, 6] := ⟨Try.func50, by decide, by decide, by decide, rfl, by decide, by decide, ⟨_, c47⟩, by kernel_rfl⟩
theorem c48 : (Try.f51.body.bind fun c => compC (E.opt ⟨[], [], []⟩) Try.f51.ntmps [0, 1, 4, 5, 6] c) = some PI.Cmp.f_ref10_weighTrans.code := by kernel_rfl
theorem o48 : FnC E N 48 PI.Cmp.f_ref10_weighTrans Try.f51 [0, 1, 4, 5, 6] := ⟨Try.func51, by decide, by decide, by decide, rfl, by decide, by decide, ⟨_, c48⟩, by kernel_rfl⟩
theorem libOk : ∀ k pf, PI.Cmp.L k = some pf → ∃ fn vs, FnC E N k pf fn vs := by
  intro k pf h
  unfold PI.Cmp.L at h
  split at h
  · simp only [Option.some.injEq] at h; subst h; exact ⟨_, _, o0⟩
  · simp only [Option.some.injEq] at h; subst h; exact ⟨_, _, o1⟩
  · simp only [Option.some.injEq] at h; subst h; exact ⟨_, _, o2⟩
  · simp only [Option.some.injEq] at h; subst h; exact ⟨_, _, o3⟩
  · simp only [Option.some.injEq] at h; subst h; exact ⟨_, _, o4⟩
  · simp only [Option.some.injEq] at h; subst h; exact ⟨_, _, o5⟩
  · simp only [Option.some.injEq] at h; subst h; exact ⟨_, _, o6⟩
  · simp only [Option.some.injEq] at h; subst h; exact ⟨_, _, o7⟩
  · simp only [Option.some.injEq] at h; subst h; exact ⟨_, _, o8⟩
  · simp only [Option.some.injEq] at h; subst h; exact ⟨_, _, o9⟩
  · simp only [Option.some.injEq] at h; subst h; exact ⟨_, _, o10⟩
  · simp only [Option.some.injEq] at h; subst h; exact ⟨_, _, o11⟩
  · simp only [Option.some.injEq] at h; subst h; exact ⟨_, _, o12⟩
  · simp only [Option.some.injEq] at h; subst h; exact ⟨_, _, o13⟩
  · simp only [Option.some.injEq] at h; subst h; exact ⟨_, _, o14⟩
  · simp only [Option.some.injEq] at h; subst h; exact ⟨_, _, o15⟩
  · simp only [Option.some.injEq] at h; subst h; exact ⟨_, _, o16⟩
  · simp only [Option.some.injEq] at h; subst h; exact ⟨_, _, o17⟩
  · simp only [Option.some.injEq] at h; subst h; exact ⟨_, _, o18⟩
  · simp only [Option.some.injEq] at h; subst h; exact ⟨_, _, o19⟩
  · simp only [Option.some.injEq] at h; subst h; exact ⟨_, _, o20⟩
  · simp only [Option.some.injEq] at h; subst h; exact ⟨_, _, o21⟩
  · simp only [Option.some.injEq] at h; subst h; exact ⟨_, _, o22⟩
  · simp only [Option.some.injEq] at h; subst h; exact ⟨_, _, o23⟩
  · simp only [Option.some.injEq] at h; subst h; exact ⟨_, _, o24⟩
  · simp only [Option.some.injEq] at h; subst h; exact ⟨_, _, o25⟩
  · simp only [Option.some.injEq] at h; subst h; exact ⟨_, _, o26⟩
  · simp only [Option.some.injEq] at h; subst h; exact ⟨_, _, o27⟩
  · simp only [Option.some.injEq] at h; subst h; exact ⟨_, _, o28⟩
  · simp only [Option.some.injEq] at h; subst h; exact ⟨_, _, o29⟩
  · simp only [Option.some.injEq] at h; subst h; exact ⟨_, _, o30⟩
  · simp only [Option.some.injEq] at h; subst h; exact ⟨_, _, o31⟩
  · simp only [Option.some.injEq] at h; subst h; exact ⟨_, _, o32⟩
  · simp only [Option.some.injEq] at h; subst h; exact ⟨_, _, o33⟩
  · simp only [Option.some.injEq] at h; subst h; exact ⟨_, _, o34⟩
  · simp only [Option.some.injEq] at h; subst h; exact ⟨_, _, o35⟩
  · simp only [Option.some.injEq] at h; subst h; exact ⟨_, _, o36⟩
  · simp only [Option.some.injEq] at h; subst h; exact ⟨_, _, o37⟩
  · simp only [Option.some.injEq] at h; subst h; exact ⟨_, _, o38⟩
  · simp only [Option.some.injEq] at h; subst h; exact ⟨_, _, o39⟩
  · simp only [Option.some.injEq] at h; subst h; exact ⟨_, _, o40⟩
  · simp only [Option.some.injEq] at h; subst h; exact ⟨_, _, o41⟩
  · simp only [Option.some.injEq] at h; subst h; exact ⟨_, _, o42⟩
  · simp only [Option.some.injEq] at h; subst h; exact ⟨_, _, o43⟩
  · simp only [Option.some.injEq] at h; subst h; exact ⟨_, _, o44⟩
  · simp only [Option.some.injEq] at h; subst h; exact ⟨_, _, o45⟩
  · simp only [Option.some.injEq] at h; subst h; exact ⟨_, _, o46⟩
  · simp only [Option.some.injEq] at h; subst h; exact ⟨_, _, o47⟩
  · simp only [Option.some.injEq] at h; subst h; exact ⟨_, _, o48⟩
  · simp at h
end Go.Proofs.Ytehmgnnalbielaa.Pi
