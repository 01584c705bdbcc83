import Derived.Test.YtljbhgpanekomaaGreatDoorChecked
import Derived.Test.YtljbhgpanekomaaGreatDoorPiLaw2
import Derived.Test.YtljbhgpanekomaaGreatDoorPiStand
import Derived.Test.YtljbhgpanekomaaGreatDoorPiScCode
import Derived.KernelRfl
set_option maxRecDepth 100000
namespace Go.Proofs.YtljbhgpanekomaaGreatDoor.Pi
open Go PI PI.Sc
def tab : List Nat := [3, 4, 5, 6, 7, 8, 9, 10, 11, 12, 13, 14, 15, 16, 17, 18, 19, 20, 21, 22, 23, 24, 25, 26, 27, 28, 29, 30, 31, 32, 33, 34, 35, 36, 37, 38, 39, 40, 41, 45, 46, 47, 48, 49, 50, 51, 52, 53, 54, 55, 56, 57, 58, 59, 60, 61, 62, 63, 64, 65, 66, 67, 68, 69, 70, 71, 72, 73, 74, 75, 76, 77, 78, 79, 80, 81, 83, 84, 85, 86, 87, 42, 43, 44, 95, 96, 97, 98, 99, 101, 102, 103, 104, 105, 106, 107, 108, 109, 110, 111, 112, 113, 114, 115, 116, 117, 118, 119, 120, 121, 82, 123, 124, 125, 88, 90, 91, 92, 138, 139, 140, 141, 142, 143, 144, 145, 146, 147, 148, 149, 150, 151, 152, 153, 154, 155, 156, 157, 158, 122, 159, 89, 170, 171, 172, 173, 174, 175, 176, 177, 178, 179, 180, 181, 182, 183, 184, 185, 186, 187, 188, 189, 195, 196, 197, 198, 199, 200, 201, 204, 205, 206, 207, 208, 209, 210, 211, 212, 213, 214, 215, 216, 217, 218, 220, 221, 223, 1000000, 1000000, 1000000, 1000000, 1000000, 1000000, 1000000]
def tab2 : List Nat := [3, 4, 5, 6, 7, 8, 9, 10, 11, 12, 13, 14, 15, 16, 17, 18, 19, 20, 21, 22, 23, 24, 25, 26, 27, 28, 29, 30, 31, 32, 33, 34, 35, 36, 37, 38, 39, 40, 41, 45, 46, 47, 48, 49, 50, 51, 52, 53, 54, 55, 56, 57, 58, 59, 60, 61, 62, 63, 64, 65, 66, 67, 68, 69, 70, 71, 72, 73, 74, 75, 76, 77, 78, 79, 80, 81, 83, 84, 85, 86, 87, 42, 43, 44, 95, 96, 97, 98, 99, 101, 102, 103, 104, 105, 106, 107, 108, 109, 110, 111, 112, 113, 114, 115, 116, 117, 118, 119, 120, 121, 82, 123, 124, 125, 88, 90, 91, 92, 138, 139, 140, 141, 142, 143, 144, 145, 146, 147, 148, 149, 150, 151, 152, 153, 154, 155, 156, 157, 158, 122, 159, 89, 170, 171, 172, 173, 174, 175, 176, 177, 178, 179, 180, 181, 182, 183, 184, 185, 186, 187, 188, 189, 195, 196, 197, 198, 199, 200, 201, 204, 205, 206, 207, 208, 209, 210, 211, 212, 213, 214, 215, 216, 217, 218, 220, 221, 223, 41, 99, 106, 111, 142, 175, 176]
noncomputable def yl : Nat → Option YL
 | 187 => yOf Tryz.f41 41 0 [1, 2]
 | 188 => yOf Tryz.f99 99 0 [1]
 | 189 => yOf Tryz.f106 106 0 [2, 4]
 | 190 => yOf Tryz.f111 111 0 [5, 6, 7, 9]
 | 191 => yOf Tryz.f142 142 0 [2]
 | 192 => yOf Tryz.f175 175 0 [2]
 | 193 => yOf Tryz.f176 176 0 [3]
 | _ => none
noncomputable def E : Env := { P := Tryz.prog, inv := fun f => if f < 1000000 then idxIn f tab 0 else none, tinv := fun _ => none, bT := none, pt := [63, 100] }
structure Ps where
 tabs : List (Nat × Nat × Value)
 rows : List (Nat × TypeId × Nat)
 errT : Nat
noncomputable def N0 (p : Ps) : Nm := { fn := fun k => tab2.getD k 0, ty := fun t => if t = 0 then p.errT else ([63, 100] : List Nat).getD (t - 1) 0, tabs := p.tabs, rows := p.rows, bT := 0, bE := 5, yl := yl }
theorem tabs2 : (List.range 194).all (fun k => decide (1000000 ≤ tab.getD k 0) || tab.getD k 0 == tab2.getD k 0) = true := by kernel_rfl
theorem tabsY : (List.range 194).all (fun k => decide (1000000 ≤ tab.getD k 0) || !([187, 188, 189, 190, 191, 192, 193] : List Nat).contains k) = true := by kernel_rfl
theorem inv_tab {f k : Nat} (h : E.inv f = some k) : f < 1000000 ∧ tab[k]? = some f := by
 have h : (if f < 1000000 then idxIn f tab 0 else none) = some k := h
 split at h
 ·obtain ⟨_, h2⟩ := idxIn_some h
  exact ⟨by assumption, by simpa using h2⟩
 ·simp at h
theorem envOk (p : Ps) : EnvOk E (N0 p) := ⟨fun f k h => by
 obtain ⟨h5, h2⟩ := inv_tab h
 have hk : k < 194 := (List.getElem?_eq_some_iff.1 h2).1
 have h3 := List.all_eq_true.1 tabs2 k (by simpa using hk)
 have h4 : tab.getD k 0 = f := by rw [List.getD_eq_getElem?_getD, h2]; rfl
 rw [h4] at h3
 show tab2.getD k 0 = f
 simp only [Bool.or_eq_true, decide_eq_true_eq, beq_iff_eq] at h3
 rcases h3 with h3 | h3
 ·omega
 ·exact h3.symm, fun f k h => by
 obtain ⟨h5, h2⟩ := inv_tab h
 have hk : k < 194 := (List.getElem?_eq_some_iff.1 h2).1
 have h3 := List.all_eq_true.1 tabsY k (by simpa using hk)
 have h4 : tab.getD k 0 = f := by rw [List.getD_eq_getElem?_getD, h2]; rfl
 rw [h4] at h3
 simp only [Bool.or_eq_true, decide_eq_true_eq, Bool.not_eq_true', List.contains_eq_mem, decide_eq_false_iff_not] at h3
 rcases h3 with h3 | h3
 ·omega
 ·show yl k = none
  unfold yl
  split <;> first | rfl | (exfalso; apply h3; decide), fun T i h => by
 obtain ⟨_, h2⟩ := idxIn_some (show idxIn T [63, 100] 0 = some i from h)
 show (if i + 1 = 0 then p.errT else ([63, 100] : List Nat).getD (i + 1 - 1) 0) = T
 rw [if_neg (by omega), List.getD_eq_getElem?_getD, show ([63, 100] : List Nat)[i + 1 - 1]? = some T by simpa using h2]; rfl, fun t h => by
 simp [E] at h⟩
theorem mixed : Tryz.prog.follows .mixedOrders = true := by kernel_rfl
section
variable {p : Ps}
theorem o0 : FnS E (N0 p) 0 f_law10_ScopeChecks := fnS [0, 1, 2, 3, 4, 5, 6] {} Tryz.func3 (by kernel_rfl) (by decide)
theorem o1 : FnS E (N0 p) 1 f_law10_ScopeNodes := fnS [0, 1, 2, 4, 5] {} Tryz.func4 (by kernel_rfl) (by decide)
theorem o2 : FnS E (N0 p) 2 f_law10_ScopeFresh := fnS [0, 1, 2, 4, 5] {} Tryz.func5 (by kernel_rfl) (by decide)
theorem o3 : FnS E (N0 p) 3 f_law10_ScopeAccepts := fnS [0, 1, 2, 3, 4, 5, 6, 7, 8, 9, 10, 11, 12] {} Tryz.func6 (by kernel_rfl) (by decide)
theorem o4 : FnS E (N0 p) 4 f_law10_ScopeEnds := fnS [0, 1, 2, 3, 4, 5, 6, 7] {} Tryz.func7 (by kernel_rfl) (by decide)
theorem o5 : FnS E (N0 p) 5 f_law10_ScopeAdds := fnS [0, 1, 2, 4, 5, 6, 7, 8, 9, 10, 11, 12, 13, 14, 15, 16] ⟨[], [], [], [23], [], [], [], false, false, false, [], [], false⟩ Tryz.func8 (by kernel_rfl) (by decide)
theorem o6 : FnS E (N0 p) 6 f_law10_heavy := fnS [0, 1, 2] {} Tryz.func9 (by kernel_rfl) (by decide)
theorem o7 : FnS E (N0 p) 7 f_law10_lives := fnS [0, 1, 2, 3, 4, 5, 6] {} Tryz.func10 (by kernel_rfl) (by decide)
theorem o8 : FnS E (N0 p) 8 f_scope_Check := fnS [0, 1, 2, 3, 4, 5, 6, 7, 8, 10, 11, 26, 28, 29, 30, 42, 43, 44, 57, 58] ⟨[2, 3, 6, 26], [31, 32], [], [], [31, 32], [], [], false, false, false, [], [], false⟩ Tryz.func11 (by kernel_rfl) (by decide)
theorem o9 : FnS E (N0 p) 9 f_ref10_Check := fnS [0, 1, 2, 3, 4, 5, 6, 7, 8, 9, 10, 11, 12] {} Tryz.func12 (by kernel_rfl) (by decide)
theorem o10 : FnS E (N0 p) 10 f_ref07_Decls := fnS [0, 1, 4, 5] {} Tryz.func13 (by kernel_rfl) (by decide)
theorem o11 : FnS E (N0 p) 11 f_scope_Vars := fnS [0, 1, 2, 3, 4, 5, 14, 15, 16] ⟨[], [36], [], [34], [], [], [], false, false, false, [], [], false⟩ Tryz.func14 (by kernel_rfl) (by decide)
theorem o12 : FnS E (N0 p) 12 f_ref10_Vars := fnS [0, 1, 2] {} Tryz.func15 (by kernel_rfl) (by decide)
theorem o13 : FnS E (N0 p) 13 f_ref06_SameNames := fnS [0, 1, 4, 5] {} Tryz.func16 (by kernel_rfl) (by decide)
theorem o14 : FnS E (N0 p) 14 f_scope_Defined := fnS [0, 1, 2] ⟨[], [], [], [], [], [], [], false, true, false, [], [], false⟩ Tryz.func17 (by kernel_rfl) (by decide)
theorem o15 : FnS E (N0 p) 15 f_ref10_Defined := fnS [0, 1, 2] {} Tryz.func18 (by kernel_rfl) (by decide)
theorem o16 : FnS E (N0 p) 16 f_law10_ints := fnS [0, 1, 4, 5] {} Tryz.func19 (by kernel_rfl) (by decide)
theorem o17 : FnS E (N0 p) 17 f_scope_Calls := fnS [0, 1, 2, 4, 5] ⟨[2, 5], [40, 45], [], [45], [], [], [], false, false, false, [], [], false⟩ Tryz.func20 (by kernel_rfl) (by decide)
theorem o18 : FnS E (N0 p) 18 f_ref10_Calls := fnS [0, 1, 2, 4, 5, 6, 7, 8, 9, 10, 11, 12] {} Tryz.func21 (by kernel_rfl) (by decide)
theorem o19 : FnS E (N0 p) 19 f_scope_Fresh := fnS [0, 1, 2, 4, 5, 6, 7] ⟨[], [49], [], [], [], [], [], false, false, false, [], [], false⟩ Tryz.func22 (by kernel_rfl) (by decide)
theorem o20 : FnS E (N0 p) 20 f_ref10_Fresh := fnS [0, 1, 2, 4, 5, 6] {} Tryz.func23 (by kernel_rfl) (by decide)
theorem o21 : FnS E (N0 p) 21 f_ref06_Has := fnS [0, 1, 4, 5] {} Tryz.func24 (by kernel_rfl) (by decide)
theorem o22 : FnS E (N0 p) 22 f_ref10_All := fnS [0, 1, 2, 3, 4, 5, 6, 7, 8, 9, 10] {} Tryz.func25 (by kernel_rfl) (by decide)
theorem o23 : FnS E (N0 p) 23 f_shape_Check := fnS [0, 1, 2, 3, 4, 6, 7, 8, 14, 28, 29, 30, 39, 40, 41] ⟨[2, 3, 4, 14], [55, 56, 57], [], [], [55, 56, 57], [], [], false, false, false, [], [], false⟩ Tryz.func26 (by kernel_rfl) (by decide)
theorem o24 : FnS E (N0 p) 24 f_law10_letter := fnS [0, 2] {} Tryz.func27 (by kernel_rfl) (by decide)
theorem o25 : FnS E (N0 p) 25 f_ref10_Weigh := fnS [0, 1, 2, 4, 5, 6, 7, 8] {} Tryz.func28 (by kernel_rfl) (by decide)
theorem o26 : FnS E (N0 p) 26 f_law10_one := fnS [0, 2] {} Tryz.func29 (by kernel_rfl) (by decide)
theorem o28 : FnS E (N0 p) 28 f_scope_look_add := fnS [0, 1, 2, 4, 7] ⟨[0], [63], [], [], [63], [], [], false, false, false, [], [], false⟩ Tryz.func31 (by kernel_rfl) (by decide)
theorem o29 : FnS E (N0 p) 29 f_scope_look_node := fnS [0, 1, 4, 5, 7, 8, 9, 11, 13, 49, 50, 51, 63, 64, 65, 86, 87, 88, 121, 122, 123] ⟨[0, 4, 5], [31, 63, 64, 65, 66, 67, 68, 69], [], [], [31, 63, 65, 66, 67, 68, 69], [], [], false, false, false, [], [], false⟩ Tryz.func32 (by kernel_rfl) (by decide)
theorem o30 : FnS E (N0 p) 30 f_ref07_Check := fnS [0, 1, 2, 3, 4, 5, 6, 7, 8, 9, 10] {} Tryz.func33 (by kernel_rfl) (by decide)
theorem o31 : FnS E (N0 p) 31 f_ref10_node := fnS [0, 1, 2, 3, 6, 7, 8, 9, 10, 11, 12, 13, 14, 15, 16, 17, 18, 19, 20, 21] ⟨[12], [], [], [], [], [], [], false, false, false, [(75, none)], [], true⟩ Tryz.func34 (by kernel_rfl) (by decide)
theorem o32 : FnS E (N0 p) 32 f_ref07_Clocks := fnS [0, 1, 4, 5] {} Tryz.func35 (by kernel_rfl) (by decide)
theorem o33 : FnS E (N0 p) 33 f_slices_Concat_api_Decl := fnS [0, 2, 3, 5, 6, 8, 9, 10, 11, 25, 26, 27] ⟨[], [80], [], [34], [], [], [], false, true, true, [], [], false⟩ Tryz.func36 (by kernel_rfl) (by decide)
theorem o34 : FnS E (N0 p) 34 f_slices_Clone_api_On := fnS [0, 2] {} Tryz.func37 (by kernel_rfl) (by decide)
theorem o35 : FnS E (N0 p) 35 f_scope_defined := fnS [0, 1, 2, 3, 6, 7, 9, 11, 13, 14, 16, 18, 19, 20, 25, 26, 27, 36, 37, 38, 54, 55, 56] ⟨[3], [83], [31, 65], [42], [], [], [], false, true, false, [], [], false⟩ Tryz.func38 (by kernel_rfl) (by decide)
theorem o36 : FnS E (N0 p) 36 f_ref10_lefts := fnS [0, 1, 4, 5, 6, 7, 8] ⟨[], [], [], [], [], [], [], false, false, false, [(85, some 0)], [], false⟩ Tryz.func39 (by kernel_rfl) (by decide)
theorem o37 : FnS E (N0 p) 37 f_scope_every := fnS [0, 1, 2, 5, 17, 18, 19] ⟨[], [86], [23], [], [], [], [], false, false, false, [], [], false⟩ Tryz.func40 (by kernel_rfl) (by decide)
theorem o38 : FnS E (N0 p) 38 f_scope_Calls_1 := fnSL [0, 1, 2, 3, 8] ⟨[1, 2], [42], [], [45], [], [], [(#[9], 187, [1, 2])], false, false, false, [], [], false⟩ [#[9]] Tryz.func41 (by kernel_rfl) (by decide) (by decide) ⟨⟨0, rfl, rfl⟩, trivial⟩
theorem o40 : FnS E (N0 p) 40 f_ref10_Exprs := fnS [0, 1, 2] ⟨[], [], [], [], [], [], [], false, false, false, [(95, none)], [], false⟩ Tryz.func46 (by kernel_rfl) (by decide)
theorem o41 : FnS E (N0 p) 41 f_ref06_List := fnS [0, 1, 2] ⟨[], [], [], [], [], [], [], false, false, false, [(96, some 1)], [], false⟩ Tryz.func47 (by kernel_rfl) (by decide)
theorem o42 : FnS E (N0 p) 42 f_ref07_Find := fnS [0, 1, 2, 4, 5, 6] {} Tryz.func48 (by kernel_rfl) (by decide)
theorem o43 : FnS E (N0 p) 43 f_scope_known := fnS [0, 1, 2, 3, 5, 7, 9, 12, 13, 14, 22, 23, 24, 33, 34, 35] ⟨[3], [40, 97, 98], [], [], [], [], [], false, false, false, [], [], false⟩ Tryz.func49 (by kernel_rfl) (by decide)
theorem o45 : FnS E (N0 p) 45 f_ref10_number := fnS [0, 2, 3, 4] {} Tryz.func51 (by kernel_rfl) (by decide)
theorem o46 : FnS E (N0 p) 46 f_ref10_declared := fnS [0, 2, 3, 4, 5] ⟨[], [], [], [], [], [], [], false, false, false, [(75, none)], [], false⟩ Tryz.func52 (by kernel_rfl) (by decide)
theorem o47 : FnS E (N0 p) 47 f_ref10_inside := fnS [0, 1, 4, 5, 6, 7, 8, 9] {} Tryz.func53 (by kernel_rfl) (by decide)
theorem o49 : FnS E (N0 p) 49 f_shape_look_must := fnS [0, 1, 2] ⟨[0], [], [], [], [], [], [], false, false, false, [], [], false⟩ Tryz.func55 (by kernel_rfl) (by decide)
theorem o50 : FnS E (N0 p) 50 f_shape_look_enum := fnS [0, 1, 3, 5, 23, 24, 25] ⟨[0], [55, 101], [], [], [55, 101], [], [], false, false, false, [], [], false⟩ Tryz.func56 (by kernel_rfl) (by decide)
theorem o51 : FnS E (N0 p) 51 f_shape_look_node := fnS [0, 1, 2, 5, 6, 7, 9, 11, 13, 80, 81, 82, 101, 102, 103, 112, 113, 114, 128, 129, 130] ⟨[0], [55, 101, 102, 103, 104, 105], [], [], [55, 101, 102, 103, 104, 105], [], [], false, false, false, [], [], false⟩ Tryz.func57 (by kernel_rfl) (by decide)
theorem o52 : FnS E (N0 p) 52 f_ref10_weighDecls := fnS [0, 1, 4, 5, 6] {} Tryz.func58 (by kernel_rfl) (by decide)
theorem o53 : FnS E (N0 p) 53 f_ref10_weighEqs := fnS [0, 1, 4, 5, 6] {} Tryz.func59 (by kernel_rfl) (by decide)
theorem o54 : FnS E (N0 p) 54 f_ref10_weighExprs := fnS [0, 1, 4, 5, 6] {} Tryz.func60 (by kernel_rfl) (by decide)
theorem o55 : FnS E (N0 p) 55 f_ref10_weighAutos := fnS [0, 1, 4, 5, 6, 7, 8] {} Tryz.func61 (by kernel_rfl) (by decide)
theorem o56 : FnS E (N0 p) 56 f_law10_variable := fnS [0, 2] {} Tryz.func62 (by kernel_rfl) (by decide)
theorem o57 : FnS E (N0 p) 57 f_scope_look_must := fnS [0, 1, 2] ⟨[0], [], [], [], [], [], [], false, false, false, [], [], false⟩ Tryz.func63 (by kernel_rfl) (by decide)
theorem o58 : FnS E (N0 p) 58 f_scope_names_inner := fnS [0, 2, 7] ⟨[0, 2, 7], [], [], [], [], [], [], false, false, false, [], [], false⟩ Tryz.func64 (by kernel_rfl) (by decide)
theorem o59 : FnS E (N0 p) 59 f_scope_look_declare := fnS [0, 1, 2, 7, 9, 10, 11, 12] ⟨[0, 1], [63, 109], [], [], [63], [], [], false, false, false, [], [], false⟩ Tryz.func65 (by kernel_rfl) (by decide)
theorem o60 : FnS E (N0 p) 60 f_scope_look_samplings := fnS [0, 1, 2, 7, 9, 10, 11, 12, 17, 18, 19] ⟨[0, 1], [63, 109], [], [], [63], [], [], false, false, false, [], [], false⟩ Tryz.func66 (by kernel_rfl) (by decide)
theorem o61 : FnS E (N0 p) 61 f_scope_look_equation := fnS [0, 1, 2, 3, 7, 9, 11, 12, 13] ⟨[0, 2], [63, 109, 110, 111], [], [42], [63, 111], [], [], false, false, false, [], [], false⟩ Tryz.func67 (by kernel_rfl) (by decide)
theorem o62 : FnS E (N0 p) 62 f_scope_look_auto := fnS [0, 1, 2, 3, 7, 8, 9, 10, 11, 12, 13, 14, 16, 18, 19, 20, 36, 37, 38, 61, 62, 63] ⟨[0, 2], [63, 114], [], [42], [63, 114], [], [], false, false, false, [], [], false⟩ Tryz.func68 (by kernel_rfl) (by decide)
theorem o63 : FnS E (N0 p) 63 f_scope_look_claims := fnS [0, 1, 2, 3, 8, 10, 12, 15, 16, 17, 28, 29, 30] ⟨[0, 8], [36, 64, 111], [], [34], [111], [], [], false, false, false, [], [], false⟩ Tryz.func69 (by kernel_rfl) (by decide)
theorem o64 : FnS E (N0 p) 64 f_ref07_enumeration := fnS [0, 1, 2, 3] {} Tryz.func70 (by kernel_rfl) (by decide)
theorem o65 : FnS E (N0 p) 65 f_ref07_head := fnS [0, 1, 3, 4, 5] {} Tryz.func71 (by kernel_rfl) (by decide)
theorem o66 : FnS E (N0 p) 66 f_ref07_equation := fnS [0, 1, 3, 4, 5, 6] {} Tryz.func72 (by kernel_rfl) (by decide)
theorem o67 : FnS E (N0 p) 67 f_ref07_tail := fnS [0, 1, 3, 4, 5, 6, 7, 8, 9, 10] {} Tryz.func73 (by kernel_rfl) (by decide)
theorem o68 : FnS E (N0 p) 68 f_ref10_declare := fnS [0, 1, 2, 6, 7, 8, 9, 10] {} Tryz.func74 (by kernel_rfl) (by decide)
theorem o69 : FnS E (N0 p) 69 f_ref10_names := fnS [0, 2, 3, 4] ⟨[], [], [], [], [], [], [], false, false, false, [(1000000, none)], [], false⟩ Tryz.func75 (by kernel_rfl) (by decide)
theorem o70 : FnS E (N0 p) 70 f_ref10_equation := fnS [0, 1, 2, 3, 4, 6, 7, 8, 9] {} Tryz.func76 (by kernel_rfl) (by decide)
theorem o71 : FnS E (N0 p) 71 f_ref10_automaton := fnS [0, 1, 2, 3, 4, 6, 7, 8, 9, 10, 11, 12, 13, 14] {} Tryz.func77 (by kernel_rfl) (by decide)
theorem o72 : FnS E (N0 p) 72 f_ref10_expression := fnS [0, 1, 2, 3, 4, 6, 7, 8, 9, 10] {} Tryz.func78 (by kernel_rfl) (by decide)
theorem o73 : FnS E (N0 p) 73 f_ref10_without := fnS [0, 1, 4, 5, 6] {} Tryz.func79 (by kernel_rfl) (by decide)
theorem o74 : FnS E (N0 p) 74 f_slices_Grow_api_Decl := fnS [0, 1, 4] ⟨[], [], [], [34], [], [], [], false, false, true, [], [], false⟩ Tryz.func80 (by kernel_rfl) (by decide)
theorem o75 : FnS E (N0 p) 75 f_scope_defined_1 := fnS [0, 1] ⟨[1], [82], [], [42], [], [], [], false, false, false, [], [], false⟩ Tryz.func81 (by kernel_rfl) (by decide)
theorem o76 : FnS E (N0 p) 76 f_slices_ContainsFunc_api_Decl := fnS [0, 1, 4] ⟨[], [123], [], [], [], [], [], false, false, false, [], [], false⟩ Tryz.func83 (by kernel_rfl) (by decide)
theorem o77 : FnS E (N0 p) 77 f_scope_defined_2 := fnS [0, 1, 2, 3] {} Tryz.func84 (by kernel_rfl) (by decide)
theorem o78 : FnS E (N0 p) 78 f_ref10_join := fnS [0, 1, 4, 5] ⟨[], [], [], [], [], [], [], false, false, false, [(1000000, none)], [], false⟩ Tryz.func85 (by kernel_rfl) (by decide)
theorem o79 : FnS E (N0 p) 79 f_scope_expressions := fnS [0, 1, 2, 7, 9, 11, 13, 14, 15, 16, 25, 26, 27, 32, 33, 34, 49, 50, 51] ⟨[], [86], [20, 55], [], [], [], [], false, false, false, [], [], false⟩ Tryz.func86 (by kernel_rfl) (by decide)
theorem o80 : FnS E (N0 p) 80 f_slices_Concat_api_Expr := fnS [0, 2, 3, 5, 6, 8, 9, 10, 11, 25, 26, 27] ⟨[], [125], [], [38], [], [], [], false, true, false, [], [], false⟩ Tryz.func87 (by kernel_rfl) (by decide)
theorem o81 : FnS E (N0 p) 81 f_expr_Each := fnS [0, 1, 2] {} Tryz.func42 (by kernel_rfl) (by decide)
theorem o82 : FnS E (N0 p) 82 f_shape_Find := fnS [0, 1, 2, 3, 4, 5, 6] {} Tryz.func43 (by kernel_rfl) (by decide)
theorem o83 : FnS E (N0 p) 83 f_slices_Contains_int := fnS [0, 1, 4] ⟨[], [92], [], [45], [], [], [], false, false, false, [], [], false⟩ Tryz.func44 (by kernel_rfl) (by decide)
theorem o84 : FnS E (N0 p) 84 f_ref10_rights := fnS [0, 1, 4, 5, 6, 7, 8, 9, 10, 11] ⟨[], [], [], [], [], [], [], false, false, false, [(1000000, none)], [], false⟩ Tryz.func95 (by kernel_rfl) (by decide)
theorem o85 : FnS E (N0 p) 85 f_ref06_list := fnS [0, 1, 2, 4, 5] ⟨[], [], [], [], [], [], [], false, false, false, [(96, some 1), (1000000, none)], [], false⟩ Tryz.func96 (by kernel_rfl) (by decide)
theorem o86 : FnS E (N0 p) 86 f_scope_gather := fnS [0, 1, 5, 7, 8, 9, 10, 18, 19, 20] {} Tryz.func97 (by kernel_rfl) (by decide)
theorem o87 : FnS E (N0 p) 87 f_scope_states := fnS [0, 1, 2, 7, 9, 11, 13, 14, 15, 16, 21, 22, 23, 31, 32, 33, 38, 39, 40] ⟨[], [97, 98], [], [], [], [], [], false, false, false, [], [], false⟩ Tryz.func98 (by kernel_rfl) (by decide)
theorem o88 : FnS E (N0 p) 88 f_scope_known_1 := fnSL [0, 1, 2, 5] ⟨[1], [42], [], [], [], [], [(#[6], 188, [1])], false, false, false, [], [], false⟩ [#[6]] Tryz.func99 (by kernel_rfl) (by decide) (by decide) ⟨⟨0, rfl, rfl⟩, trivial⟩
theorem o89 : FnS E (N0 p) 89 f_shape_look_ident := fnS [0, 1] ⟨[0], [55], [], [], [55], [], [], false, false, false, [], [], false⟩ Tryz.func101 (by kernel_rfl) (by decide)
theorem o90 : FnS E (N0 p) 90 f_shape_look_decls := fnS [0, 1, 2, 7, 9, 10, 11, 12, 47, 48, 49] ⟨[0], [55, 101], [], [], [55, 101], [], [], false, false, false, [], [], false⟩ Tryz.func102 (by kernel_rfl) (by decide)
theorem o91 : FnS E (N0 p) 91 f_shape_look_equation := fnS [0, 1, 3, 5, 19, 20, 21] ⟨[0], [55, 101, 105], [], [], [55, 101, 105], [], [], false, false, false, [], [], false⟩ Tryz.func103 (by kernel_rfl) (by decide)
theorem o92 : FnS E (N0 p) 92 f_shape_look_auto := fnS [0, 1, 2, 4, 7, 9, 11, 29, 30, 31, 72, 73, 74, 83, 84, 85] ⟨[0], [55, 101, 102, 103, 104, 141], [], [], [55, 101, 102, 103, 104, 141], [], [], false, false, false, [], [], false⟩ Tryz.func104 (by kernel_rfl) (by decide)
theorem o93 : FnS E (N0 p) 93 f_shape_look_right := fnS [0, 1] ⟨[0], [55], [], [], [55], [], [], false, false, false, [], [], false⟩ Tryz.func105 (by kernel_rfl) (by decide)
theorem o94 : FnS E (N0 p) 94 f_shape_Expr := fnSL [0, 1, 2, 3, 4, 5, 14] ⟨[2, 4], [42], [], [], [], [], [(#[15], 189, [2, 4])], false, false, false, [], [], false⟩ [#[15]] Tryz.func106 (by kernel_rfl) (by decide) (by decide) ⟨⟨0, rfl, rfl⟩, trivial⟩
theorem o95 : FnS E (N0 p) 95 f_ref06_Weigh := fnS [0, 1, 2, 4, 5, 6] {} Tryz.func107 (by kernel_rfl) (by decide)
theorem o96 : FnS E (N0 p) 96 f_ref10_weighTrans := fnS [0, 1, 4, 5, 6] {} Tryz.func108 (by kernel_rfl) (by decide)
theorem o97 : FnS E (N0 p) 97 f_scope_names_sees := fnS [0, 1, 4] ⟨[0], [], [], [], [], [], [], false, false, false, [], [], false⟩ Tryz.func109 (by kernel_rfl) (by decide)
theorem o98 : FnS E (N0 p) 98 f_scope_names_defined := fnS [0, 1, 4] ⟨[0], [], [], [], [], [], [], false, false, false, [], [], false⟩ Tryz.func110 (by kernel_rfl) (by decide)
theorem o99 : FnS E (N0 p) 99 f_scope_look_expression := fnSL [0, 1, 2, 3, 4, 5, 6, 7, 8, 9, 12] ⟨[0, 2, 5, 6, 7, 9], [42], [], [], [], [], [(#[13], 190, [5, 6, 7, 9])], false, false, false, [], [], false⟩ [#[13]] Tryz.func111 (by kernel_rfl) (by decide) (by decide) ⟨⟨0, rfl, rfl⟩, trivial⟩
theorem o100 : FnS E (N0 p) 100 f_slices_ContainsFunc_api_State := fnS [0, 1, 4] ⟨[], [145], [], [], [], [], [], false, false, false, [], [], false⟩ Tryz.func112 (by kernel_rfl) (by decide)
theorem o101 : FnS E (N0 p) 101 f_scope_look_auto_1 := fnS [0, 1, 2, 3] {} Tryz.func113 (by kernel_rfl) (by decide)
theorem o102 : FnS E (N0 p) 102 f_scope_look_state := fnS [0, 1, 2, 3, 7, 8, 9, 11, 13, 15, 17, 21, 22, 23, 39, 40, 41, 52, 53, 54, 77, 78, 79] ⟨[0, 2], [63, 64, 65, 66, 67, 68, 146, 147], [], [], [63, 65, 66, 67, 68, 146], [], [], false, false, false, [], [], false⟩ Tryz.func114 (by kernel_rfl) (by decide)
theorem o103 : FnS E (N0 p) 103 f_scope_alike := fnS [0, 1, 3, 4] {} Tryz.func115 (by kernel_rfl) (by decide)
theorem o104 : FnS E (N0 p) 104 f_ref03_Ident := fnS [0, 2, 3] {} Tryz.func116 (by kernel_rfl) (by decide)
theorem o105 : FnS E (N0 p) 105 f_ref07_decls := fnS [0, 1, 2, 6, 7, 8] {} Tryz.func117 (by kernel_rfl) (by decide)
theorem o106 : FnS E (N0 p) 106 f_ref07_Expr := fnS [0, 1, 3, 4, 5] {} Tryz.func118 (by kernel_rfl) (by decide)
theorem o107 : FnS E (N0 p) 107 f_ref07_auto := fnS [0, 1, 2, 4, 6, 7, 8] {} Tryz.func119 (by kernel_rfl) (by decide)
theorem o108 : FnS E (N0 p) 108 f_ref10_state := fnS [0, 1, 2, 3, 4, 6, 7, 8, 9, 10, 11, 12, 13, 14, 15, 16, 17, 18] {} Tryz.func120 (by kernel_rfl) (by decide)
theorem o109 : FnS E (N0 p) 109 f_ref10_callee := fnS [0, 1, 2, 3, 6, 7, 8] {} Tryz.func121 (by kernel_rfl) (by decide)
theorem o110 : FnS E (N0 p) 110 f_slices_Contains_string := fnS [0, 1, 4] ⟨[], [122], [], [42], [], [], [], false, false, false, [], [], false⟩ Tryz.func82 (by kernel_rfl) (by decide)
theorem o111 : FnS E (N0 p) 111 f_slices_IndexFunc_api_Decl := fnS [0, 1, 4, 5, 7, 8] ⟨[], [], [11], [], [], [], [], false, false, false, [], [], false⟩ Tryz.func123 (by kernel_rfl) (by decide)
theorem o112 : FnS E (N0 p) 112 f_slices_Concat_api_Trans := fnS [0, 2, 3, 5, 6, 8, 9, 10, 11, 25, 26, 27] ⟨[], [159], [], [138], [], [], [], false, true, false, [], [], false⟩ Tryz.func124 (by kernel_rfl) (by decide)
theorem o113 : FnS E (N0 p) 113 f_slices_Grow_api_Expr := fnS [0, 1, 4] ⟨[], [], [], [38], [], [], [], false, false, true, [], [], false⟩ Tryz.func125 (by kernel_rfl) (by decide)
theorem o114 : FnS E (N0 p) 114 f_expr_Each_1 := fnS [0, 1] ⟨[], [89], [], [], [89], [], [], false, false, false, [], [], false⟩ Tryz.func88 (by kernel_rfl) (by decide)
theorem o115 : FnS E (N0 p) 115 f_slices_IndexFunc_api_Node := fnS [0, 1, 4, 5, 7, 8] ⟨[], [], [11], [], [], [], [], false, false, false, [], [], false⟩ Tryz.func90 (by kernel_rfl) (by decide)
theorem o116 : FnS E (N0 p) 116 f_shape_Find_1 := fnS [0, 1, 2, 3] {} Tryz.func91 (by kernel_rfl) (by decide)
theorem o117 : FnS E (N0 p) 117 f_slices_Index_int := fnS [0, 1, 4, 5, 7, 8] ⟨[], [], [], [45], [], [], [], false, false, false, [], [], false⟩ Tryz.func92 (by kernel_rfl) (by decide)
theorem o118 : FnS E (N0 p) 118 f_lex_Ident := fnS [0, 2, 3, 22, 23] {} Tryz.func138 (by kernel_rfl) (by decide)
theorem o119 : FnS E (N0 p) 119 f_value_Size := fnS [0, 1, 4, 5, 7] {} Tryz.func139 (by kernel_rfl) (by decide)
theorem o120 : FnS E (N0 p) 120 f_value_Has := fnS [0, 1, 2, 6] {} Tryz.func140 (by kernel_rfl) (by decide)
theorem o121 : FnS E (N0 p) 121 f_shape_look_transitions := fnS [0, 1, 2, 3, 9, 10, 11, 12] ⟨[0], [55, 105], [], [], [55, 105], [], [], false, false, false, [], [], false⟩ Tryz.func141 (by kernel_rfl) (by decide)
theorem o122 : FnS E (N0 p) 122 f_expr_Check := fnSL [0, 1, 2, 14] ⟨[2], [42], [], [], [], [], [(#[15], 191, [2])], false, false, false, [], [], false⟩ [#[15]] Tryz.func142 (by kernel_rfl) (by decide) (by decide) ⟨⟨0, rfl, rfl⟩, trivial⟩
theorem o123 : FnS E (N0 p) 123 f_shape_inside := fnS [0, 1, 3, 4, 5, 11, 12] {} Tryz.func143 (by kernel_rfl) (by decide)
theorem o124 : FnS E (N0 p) 124 f_scope_look_call := fnS [0, 1, 2, 3, 6, 8, 9] ⟨[0], [63], [], [], [63], [], [], false, false, false, [], [], false⟩ Tryz.func144 (by kernel_rfl) (by decide)
theorem o125 : FnS E (N0 p) 125 f_slices_IndexFunc_api_State := fnS [0, 1, 4, 5, 7, 8] ⟨[], [], [11], [], [], [], [], false, false, false, [], [], false⟩ Tryz.func145 (by kernel_rfl) (by decide)
theorem o126 : FnS E (N0 p) 126 f_scope_look_conditions := fnS [0, 1, 2, 3, 9, 10, 11, 12] ⟨[0, 2], [111], [], [], [111], [], [], false, false, false, [], [], false⟩ Tryz.func146 (by kernel_rfl) (by decide)
theorem o127 : FnS E (N0 p) 127 f_slices_DeleteFunc_string := fnS [0, 1, 4, 5, 6, 7] ⟨[], [179], [26], [42], [], [], [], false, false, true, [], [], false⟩ Tryz.func147 (by kernel_rfl) (by decide)
theorem o128 : FnS E (N0 p) 128 f_scope_look_state_1 := fnS [0, 1, 3] {} Tryz.func148 (by kernel_rfl) (by decide)
theorem o129 : FnS E (N0 p) 129 f_slices_ContainsFunc_string := fnS [0, 1, 4] ⟨[], [179], [], [], [], [], [], false, false, false, [], [], false⟩ Tryz.func149 (by kernel_rfl) (by decide)
theorem o130 : FnS E (N0 p) 130 f_scope_alike_1 := fnS [0, 1, 3] {} Tryz.func150 (by kernel_rfl) (by decide)
theorem o131 : FnS E (N0 p) 131 f_ref03_Letter := fnS [0, 2] {} Tryz.func151 (by kernel_rfl) (by decide)
theorem o132 : FnS E (N0 p) 132 f_ref03_inner := fnS [0, 2] {} Tryz.func152 (by kernel_rfl) (by decide)
theorem o133 : FnS E (N0 p) 133 f_ref03_Keyword := fnS [0, 2, 3, 4] {} Tryz.func153 (by kernel_rfl) (by decide)
theorem o134 : FnS E (N0 p) 134 f_ref07_decl := fnS [0, 1, 2, 4, 6, 7, 8] {} Tryz.func154 (by kernel_rfl) (by decide)
theorem o135 : FnS E (N0 p) 135 f_ref06_Check := fnS [0, 1, 2, 3, 4] {} Tryz.func155 (by kernel_rfl) (by decide)
theorem o136 : FnS E (N0 p) 136 f_ref07_inside := fnS [0, 1, 3, 4, 5, 6] {} Tryz.func156 (by kernel_rfl) (by decide)
theorem o137 : FnS E (N0 p) 137 f_ref07_state := fnS [0, 1, 2, 3, 5, 8, 9, 10, 11] {} Tryz.func157 (by kernel_rfl) (by decide)
theorem o138 : FnS E (N0 p) 138 f_ref10_conditions := fnS [0, 1, 2, 4, 5, 6] {} Tryz.func158 (by kernel_rfl) (by decide)
theorem o139 : FnS E (N0 p) 139 f_slices_Index_string := fnS [0, 1, 4, 5, 7, 8] ⟨[], [], [], [42], [], [], [], false, false, false, [], [], false⟩ Tryz.func122 (by kernel_rfl) (by decide)
theorem o140 : FnS E (N0 p) 140 f_slices_Grow_api_Trans := fnS [0, 1, 4] ⟨[], [], [], [138], [], [], [], false, false, true, [], [], false⟩ Tryz.func159 (by kernel_rfl) (by decide)
theorem o141 : FnS E (N0 p) 141 f_expr_each := fnS [0, 1, 2, 4, 6, 12, 13, 14] ⟨[], [89], [7], [], [89], [7], [], false, false, false, [], [], false⟩ Tryz.func89 (by kernel_rfl) (by decide)
theorem o142 : FnS E (N0 p) 142 f_lex_letter := fnS [0, 2] {} Tryz.func170 (by kernel_rfl) (by decide)
theorem o143 : FnS E (N0 p) 143 f_lex_Keyword := fnS [0, 2, 3, 4] {} Tryz.func171 (by kernel_rfl) (by decide)
theorem o144 : FnS E (N0 p) 144 f_lex_inner := fnS [0, 2] {} Tryz.func172 (by kernel_rfl) (by decide)
theorem o145 : FnS E (N0 p) 145 f_value_enum := fnS [0, 1, 4, 5] {} Tryz.func173 (by kernel_rfl) (by decide)
theorem o146 : FnS E (N0 p) 146 f_word_In := fnS [0, 2] {} Tryz.func174 (by kernel_rfl) (by decide)
theorem o147 : FnS E (N0 p) 147 f_expr_Stateless := fnSL [0, 1, 2, 5] ⟨[2], [42], [], [], [], [], [(#[6], 192, [2])], false, false, false, [], [], false⟩ [#[6]] Tryz.func175 (by kernel_rfl) (by decide) (by decide) ⟨⟨0, rfl, rfl⟩, trivial⟩
theorem o148 : FnS E (N0 p) 148 f_expr_Size := fnSL [0, 1, 2, 3, 5] ⟨[3], [42], [], [], [], [], [(#[6], 193, [3])], false, false, false, [], [], false⟩ [#[6]] Tryz.func176 (by kernel_rfl) (by decide) (by decide) ⟨⟨0, rfl, rfl⟩, trivial⟩
theorem o149 : FnS E (N0 p) 149 f_expr_Depth := fnS [0, 1, 2, 3, 5, 7, 8, 9] {} Tryz.func177 (by kernel_rfl) (by decide)
theorem o150 : FnS E (N0 p) 150 f_expr_one := fnS [0, 1, 2, 3, 4, 5] {} Tryz.func178 (by kernel_rfl) (by decide)
theorem o151 : FnS E (N0 p) 151 f_slices_IndexFunc_string := fnS [0, 1, 4, 5, 7, 8] ⟨[], [], [11], [42], [], [], [], false, false, false, [], [], false⟩ Tryz.func179 (by kernel_rfl) (by decide)
theorem o152 : FnS E (N0 p) 152 f_ref03_digit := fnS [0, 2] {} Tryz.func180 (by kernel_rfl) (by decide)
theorem o153 : FnS E (N0 p) 153 f_ref03_keywords := fnS [0] {} Tryz.func181 (by kernel_rfl) (by decide)
theorem o154 : FnS E (N0 p) 154 f_ref07_valid := fnS [0, 1, 4] {} Tryz.func182 (by kernel_rfl) (by decide)
theorem o155 : FnS E (N0 p) 155 f_ref05_Has := fnS [0, 1, 2, 6] {} Tryz.func183 (by kernel_rfl) (by decide)
theorem o156 : FnS E (N0 p) 156 f_ref06_Size := fnS [0, 1, 2, 3, 4] {} Tryz.func184 (by kernel_rfl) (by decide)
theorem o157 : FnS E (N0 p) 157 f_ref06_Depth := fnS [0, 1, 2, 3, 4] {} Tryz.func185 (by kernel_rfl) (by decide)
theorem o158 : FnS E (N0 p) 158 f_ref06_form := fnS [0, 1, 2, 3, 4, 55] {} Tryz.func186 (by kernel_rfl) (by decide)
theorem o159 : FnS E (N0 p) 159 f_ref06_Named := fnS [0, 2] {} Tryz.func187 (by kernel_rfl) (by decide)
theorem o160 : FnS E (N0 p) 160 f_ref05_Size := fnS [0, 1, 4] {} Tryz.func188 (by kernel_rfl) (by decide)
theorem o161 : FnS E (N0 p) 161 f_ref07_transitions := fnS [0, 1, 2, 3, 8, 9, 10] {} Tryz.func189 (by kernel_rfl) (by decide)
theorem o162 : FnS E (N0 p) 162 f_lex_digit := fnS [0, 2] {} Tryz.func195 (by kernel_rfl) (by decide)
theorem o163 : FnS E (N0 p) 163 f_expr_of := fnS [0, 1, 2, 3, 4, 5, 18, 77] {} Tryz.func196 (by kernel_rfl) (by decide)
theorem o164 : FnS E (N0 p) 164 f_bword_Parse := fnS [0, 2, 3, 4, 5, 6, 7, 8, 9, 10, 11, 12, 13] {} Tryz.func197 (by kernel_rfl) (by decide)
theorem o165 : FnS E (N0 p) 165 f_ref06_args := fnS [0, 1, 2, 3, 8, 9, 33, 38] {} Tryz.func198 (by kernel_rfl) (by decide)
theorem o166 : FnS E (N0 p) 166 f_ref06_tagged := fnS [0, 1, 4] {} Tryz.func199 (by kernel_rfl) (by decide)
theorem o167 : FnS E (N0 p) 167 f_ref02_Parse := fnS [0, 2, 3, 4, 5] {} Tryz.func200 (by kernel_rfl) (by decide)
theorem o168 : FnS E (N0 p) 168 f_ref06_Stateless := fnS [0, 1, 2] {} Tryz.func201 (by kernel_rfl) (by decide)
theorem o169 : FnS E (N0 p) 169 f_expr_tag := fnS [0, 1, 4] {} Tryz.func204 (by kernel_rfl) (by decide)
theorem o170 : FnS E (N0 p) 170 f_expr_operands := fnS [0, 2] {} Tryz.func205 (by kernel_rfl) (by decide)
theorem o171 : FnS E (N0 p) 171 f_expr_branches := fnS [0, 1, 4] {} Tryz.func206 (by kernel_rfl) (by decide)
theorem o172 : FnS E (N0 p) 172 f_strings_Cut := fnS [0, 1, 4, 5, 6] {} Tryz.func207 (by kernel_rfl) (by decide)
theorem o173 : FnS E (N0 p) 173 f_strings_CutSuffix := fnS [0, 1, 4, 5] {} Tryz.func208 (by kernel_rfl) (by decide)
theorem o174 : FnS E (N0 p) 174 f_bword_letters := fnS [0, 2, 3, 4, 5, 7, 8] {} Tryz.func209 (by kernel_rfl) (by decide)
theorem o175 : FnS E (N0 p) 175 f_bword_Check := fnS [0, 1, 2] {} Tryz.func210 (by kernel_rfl) (by decide)
theorem o176 : FnS E (N0 p) 176 f_ref02_run := fnS [0, 1, 4, 5] {} Tryz.func211 (by kernel_rfl) (by decide)
theorem o177 : FnS E (N0 p) 177 f_ref02_Check := fnS [0, 1, 2] {} Tryz.func212 (by kernel_rfl) (by decide)
theorem o178 : FnS E (N0 p) 178 f_ref06_Count := fnS [0, 1, 2, 4, 5, 6, 7] {} Tryz.func213 (by kernel_rfl) (by decide)
theorem o179 : FnS E (N0 p) 179 f_internal_stringslite_Cut := fnS [0, 1, 4, 5, 6, 7] {} Tryz.func214 (by kernel_rfl) (by decide)
theorem o180 : FnS E (N0 p) 180 f_internal_stringslite_CutSuffix := fnS [0, 1, 4, 5] {} Tryz.func215 (by kernel_rfl) (by decide)
theorem o181 : FnS E (N0 p) 181 f_internal_stringslite_Index := fnS [0, 1, 4, 5, 6, 7, 8, 9, 10, 11, 12, 13] {} Tryz.func216 (by kernel_rfl) (by decide)
theorem o182 : FnS E (N0 p) 182 f_internal_stringslite_HasSuffix := fnS [0, 1, 4] {} Tryz.func217 (by kernel_rfl) (by decide)
theorem o184 : FnS E (N0 p) 184 f_internal_bytealg_Cutover := fnS [0, 2] {} Tryz.func220 (by kernel_rfl) (by decide)
theorem o185 : FnS E (N0 p) 185 f_internal_bytealg_IndexRabinKarp_string := fnS [0, 1, 4, 5, 6, 7, 8, 9, 10] {} Tryz.func221 (by kernel_rfl) (by decide)
theorem o186 : FnS E (N0 p) 186 f_internal_bytealg_hashStr_string := fnS [0, 2, 3, 4, 5, 6, 7, 8] {} Tryz.func223 (by kernel_rfl) (by decide)
theorem o187 : FnS E (N0 p) 187 f_scope_Calls_1_0 := rdS [1, 2] [1, 2, 9, 4, 5, 6] ⟨[1, 2], [44], [], [45], [], [], [], false, false, false, [], [], false⟩ 0 #[9] rfl Tryz.func41 (by kernel_rfl) (by kernel_rfl) (by decide)
theorem o188 : FnS E (N0 p) 188 f_scope_known_1_0 := rdS [1] [1, 6, 3, 8, 12] ⟨[1], [], [], [], [], [], [], false, false, false, [], [], false⟩ 0 #[6] rfl Tryz.func99 (by kernel_rfl) (by kernel_rfl) (by decide)
theorem o189 : FnS E (N0 p) 189 f_shape_Expr_0 := rdS [2, 4] [2, 4, 15, 6, 7] ⟨[2, 4], [], [], [], [], [], [], false, false, false, [], [], false⟩ 0 #[15] rfl Tryz.func106 (by kernel_rfl) (by kernel_rfl) (by decide)
theorem o190 : FnS E (N0 p) 190 f_scope_look_expression_0 := rdS [5, 6, 7, 9] [5, 6, 7, 9, 13, 10, 15, 16] ⟨[5, 6, 7, 9], [63, 109, 144], [], [], [63, 144], [], [], false, false, false, [], [109], false⟩ 0 #[13] rfl Tryz.func111 (by kernel_rfl) (by kernel_rfl) (by decide)
theorem o191 : FnS E (N0 p) 191 f_expr_Check_0 := rdS [2] [2, 15, 3, 4] ⟨[2], [], [], [], [], [], [], false, false, false, [], [], false⟩ 0 #[15] rfl Tryz.func142 (by kernel_rfl) (by kernel_rfl) (by decide)
theorem o192 : FnS E (N0 p) 192 f_expr_Stateless_0 := rdS [2] [2, 6, 3, 8, 9] ⟨[2], [], [], [], [], [], [], false, false, false, [], [], false⟩ 0 #[6] rfl Tryz.func175 (by kernel_rfl) (by kernel_rfl) (by decide)
theorem o193 : FnS E (N0 p) 193 f_expr_Size_0 := rdS [3] [3, 6] ⟨[3], [], [], [], [], [], [], false, false, false, [], [], false⟩ 0 #[6] rfl Tryz.func176 (by kernel_rfl) (by kernel_rfl) (by decide)
theorem libOk (h39 : PrimOK (N0 p) Tryz.prog 39 pSortInts) (h44 : PrimOK (N0 p) Tryz.prog 44 pItoa) (h183 : PrimOK (N0 p) Tryz.prog 183 pIndexByte) (h27 : DfrOK (N0 p) Tryz.prog 27 (pRec 1)) (h48 : DfrOK (N0 p) Tryz.prog 48 (pRec 2)) : ∀ k pf, LS k = some pf → FnS E (N0 p) k pf := by
 have all : AllFn E (N0 p) 0 LSt := ⟨o0, o1, o2, o3, o4, o5, o6, o7, o8, o9, o10, o11, o12, o13, o14, o15, o16, o17, o18, o19, o20, o21, o22, o23, o24, o25, o26, .inl ⟨rfl, rfl, by decide, .inr (.inr ⟨_, Tryz.f30, rfl, rfl, rfl, Tryz.func30, by decide, by kernel_rfl, h27⟩)⟩, o28, o29, o30, o31, o32, o33, o34, o35, o36, o37, o38, .inl ⟨rfl, rfl, by decide, .inr (.inl ⟨_, Tryz.f45, rfl, rfl, Tryz.func45, by decide, by kernel_rfl, h39⟩)⟩, o40, o41, o42, o43, .inl ⟨rfl, rfl, by decide, .inr (.inl ⟨_, Tryz.f50, rfl, rfl, Tryz.func50, by decide, by kernel_rfl, h44⟩)⟩, o45, o46, o47, .inl ⟨rfl, rfl, by decide, .inr (.inr ⟨_, Tryz.f54, rfl, rfl, rfl, Tryz.func54, by decide, by kernel_rfl, h48⟩)⟩, o49, o50, o51, o52, o53, o54, o55, o56, o57, o58, o59, o60, o61, o62, o63, o64, o65, o66, o67, o68, o69, o70, o71, o72, o73, o74, o75, o76, o77, o78, o79, o80, o81, o82, o83, o84, o85, o86, o87, o88, o89, o90, o91, o92, o93, o94, o95, o96, o97, o98, o99, o100, o101, o102, o103, o104, o105, o106, o107, o108, o109, o110, o111, o112, o113, o114, o115, o116, o117, o118, o119, o120, o121, o122, o123, o124, o125, o126, o127, o128, o129, o130, o131, o132, o133, o134, o135, o136, o137, o138, o139, o140, o141, o142, o143, o144, o145, o146, o147, o148, o149, o150, o151, o152, o153, o154, o155, o156, o157, o158, o159, o160, o161, o162, o163, o164, o165, o166, o167, o168, o169, o170, o171, o172, o173, o174, o175, o176, o177, o178, o179, o180, o181, o182, .inl ⟨rfl, rfl, by decide, .inr (.inl ⟨_, Tryz.f218, rfl, rfl, Tryz.func218, by decide, by kernel_rfl, h183⟩)⟩, o184, o185, o186, o187, o188, o189, o190, o191, o192, o193, trivial⟩
 intro k pf h
 have := all.get (k := k) (f := pf) h
 rwa [Nat.zero_add] at this
end
end Go.Proofs.YtljbhgpanekomaaGreatDoor.Pi
