/-
  The functions stand in the translated program. Written by program (mk2.py).
-/
import Derived.Test.YtaejhojielbbdaaGreatDoorChecked
import Derived.Test.YtaejhojielbbdaaGreatDoorPiLaw2
import Derived.Test.YtaejhojielbbdaaGreatDoorPiStand
import Derived.Test.YtaejhojielbbdaaGreatDoorPiCvCode
import Derived.KernelRfl
set_option linter.unusedVariables false
set_option linter.unusedSimpArgs false
set_option maxRecDepth 100000
set_option linter.unusedSectionVars false
namespace Go.Proofs.YtaejhojielbbdaaGreatDoor.Pi
open Go PI PI.Sc
def tab : List Nat := [3, 4, 5, 6, 7, 8, 9, 10, 11, 12, 13, 14, 15, 16, 17, 18, 19, 20, 21, 22, 23, 24, 25, 26, 27, 28, 29, 30, 31, 32, 33, 34, 35, 36, 37, 38, 39, 40, 41, 42, 43, 44, 45, 46, 47, 48, 49, 50, 51, 52, 53, 54, 55, 56, 57, 58, 59, 60, 61, 62, 63, 64, 65, 66, 67, 68, 69, 70, 71, 72, 75, 76, 77, 78, 79, 80, 81, 82, 83, 84, 85, 86, 87, 88, 89, 90, 91, 93, 94, 95, 96, 97, 98, 99, 100, 101, 102, 103, 104, 105, 106, 73, 107, 108, 109, 110, 111, 112, 113, 114, 115, 116, 120, 121, 122, 123, 124, 125, 126, 127, 128, 129, 130, 131, 132, 133, 134, 135, 136, 137, 138, 143, 144, 145, 146, 147, 148, 149, 150, 151, 92, 153, 154, 155, 156, 157, 158, 159, 160, 161, 162, 163, 164, 117, 165, 166, 167, 168, 169, 170, 171, 172, 177, 178, 179, 180, 181, 182, 183, 184, 185, 186, 187, 188, 189, 190, 191, 192, 193, 194, 195, 196, 197, 198, 199, 139, 140, 141, 142, 204, 205, 206, 207, 208, 209, 211, 212, 213, 214, 217, 218, 219, 220, 221, 222, 403, 404, 405, 406, 223, 152, 224, 225, 226, 227, 228, 229, 230, 118, 231, 232, 233, 234, 240, 241, 242, 243, 244, 245, 246, 247, 248, 249, 250, 251, 252, 253, 254, 255, 256, 257, 258, 259, 260, 261, 264, 266, 267, 268, 269, 270, 271, 200, 201, 202, 203, 272, 273, 210, 274, 215, 216, 278, 279, 280, 281, 282, 283, 284, 285, 286, 287, 288, 289, 290, 291, 292, 293, 294, 295, 296, 297, 298, 299, 300, 301, 302, 305, 306, 307, 308, 309, 310, 311, 312, 313, 262, 263, 265, 316, 277, 326, 328, 329, 330, 331, 332, 333, 334, 335, 336, 337, 338, 339, 340, 341, 314, 315, 356, 357, 358, 359, 360, 365, 366, 367, 369, 370, 372, 373, 374, 376, 377, 378, 379, 380, 381, 382, 383, 1000000, 1000000, 1000000, 1000000, 1000000, 1000000, 1000000, 1000000, 1000000]
def tab2 : List Nat := [3, 4, 5, 6, 7, 8, 9, 10, 11, 12, 13, 14, 15, 16, 17, 18, 19, 20, 21, 22, 23, 24, 25, 26, 27, 28, 29, 30, 31, 32, 33, 34, 35, 36, 37, 38, 39, 40, 41, 42, 43, 44, 45, 46, 47, 48, 49, 50, 51, 52, 53, 54, 55, 56, 57, 58, 59, 60, 61, 62, 63, 64, 65, 66, 67, 68, 69, 70, 71, 72, 75, 76, 77, 78, 79, 80, 81, 82, 83, 84, 85, 86, 87, 88, 89, 90, 91, 93, 94, 95, 96, 97, 98, 99, 100, 101, 102, 103, 104, 105, 106, 73, 107, 108, 109, 110, 111, 112, 113, 114, 115, 116, 120, 121, 122, 123, 124, 125, 126, 127, 128, 129, 130, 131, 132, 133, 134, 135, 136, 137, 138, 143, 144, 145, 146, 147, 148, 149, 150, 151, 92, 153, 154, 155, 156, 157, 158, 159, 160, 161, 162, 163, 164, 117, 165, 166, 167, 168, 169, 170, 171, 172, 177, 178, 179, 180, 181, 182, 183, 184, 185, 186, 187, 188, 189, 190, 191, 192, 193, 194, 195, 196, 197, 198, 199, 139, 140, 141, 142, 204, 205, 206, 207, 208, 209, 211, 212, 213, 214, 217, 218, 219, 220, 221, 222, 403, 404, 405, 406, 223, 152, 224, 225, 226, 227, 228, 229, 230, 118, 231, 232, 233, 234, 240, 241, 242, 243, 244, 245, 246, 247, 248, 249, 250, 251, 252, 253, 254, 255, 256, 257, 258, 259, 260, 261, 264, 266, 267, 268, 269, 270, 271, 200, 201, 202, 203, 272, 273, 210, 274, 215, 216, 278, 279, 280, 281, 282, 283, 284, 285, 286, 287, 288, 289, 290, 291, 292, 293, 294, 295, 296, 297, 298, 299, 300, 301, 302, 305, 306, 307, 308, 309, 310, 311, 312, 313, 262, 263, 265, 316, 277, 326, 328, 329, 330, 331, 332, 333, 334, 335, 336, 337, 338, 339, 340, 341, 314, 315, 356, 357, 358, 359, 360, 365, 366, 367, 369, 370, 372, 373, 374, 376, 377, 378, 379, 380, 381, 382, 383, 28, 65, 72, 107, 128, 165, 230, 242, 316]
noncomputable def yl : Nat → Option YL
 | 339 => yOf Tryz.f28 28 0 [3, 4]
 | 340 => yOf Tryz.f65 65 0 [2, 4]
 | 341 => yOf Tryz.f72 72 0 [1]
 | 342 => yOf Tryz.f107 107 0 [2]
 | 343 => yOf Tryz.f128 128 0 [2]
 | 344 => yOf Tryz.f165 165 0 [3]
 | 345 => yOf Tryz.f230 230 0 [2, 4]
 | 346 => yOf Tryz.f242 242 0 [5, 6, 7, 9]
 | 347 => yOf Tryz.f316 316 0 [2]
 | _ => none
noncomputable def E : Env := { P := Tryz.prog, inv := fun f => if f < 1000000 then idxIn f tab 0 else none, tinv := fun _ => none, bT := none, pt := [223, 244, 3, 342] }
structure Ps where
 tabs : List (Nat × Nat × Value)
 rows : List (Nat × TypeId × Nat)
 errT : Nat
noncomputable def N0 (p : Ps) : Nm := { fn := fun k => tab2.getD k 0, ty := fun t => if t = 0 then p.errT else ([223, 244, 3, 342] : List Nat).getD (t - 1) 0, tabs := p.tabs, rows := p.rows, bT := 0, bE := 5, yl := yl }
theorem tabs2 : (List.range 348).all (fun k => decide (1000000 ≤ tab.getD k 0) || tab.getD k 0 == tab2.getD k 0) = true := by kernel_rfl
theorem tabsY : (List.range 348).all (fun k => decide (1000000 ≤ tab.getD k 0) || !([339, 340, 341, 342, 343, 344, 345, 346, 347] : List Nat).contains k) = true := by kernel_rfl
theorem inv_tab {f k : Nat} (h : E.inv f = some k) : f < 1000000 ∧ tab[k]? = some f := by
 have h : (if f < 1000000 then idxIn f tab 0 else none) = some k := h
 split at h
 ·obtain ⟨_, h2⟩ := idxIn_some h
  exact ⟨by assumption, by simpa using h2⟩
 ·simp at h
theorem envOk (p : Ps) : EnvOk E (N0 p) := ⟨fun f k h => by
 obtain ⟨h5, h2⟩ := inv_tab h
 have hk : k < 348 := (List.getElem?_eq_some_iff.1 h2).1
 have h3 := List.all_eq_true.1 tabs2 k (by simpa using hk)
 have h4 : tab.getD k 0 = f := by rw [List.getD_eq_getElem?_getD, h2]; rfl
 rw [h4] at h3
 show tab2.getD k 0 = f
 simp only [Bool.or_eq_true, decide_eq_true_eq, beq_iff_eq] at h3
 rcases h3 with h3 | h3
 ·omega
 ·exact h3.symm, fun f k h => by
 obtain ⟨h5, h2⟩ := inv_tab h
 have hk : k < 348 := (List.getElem?_eq_some_iff.1 h2).1
 have h3 := List.all_eq_true.1 tabsY k (by simpa using hk)
 have h4 : tab.getD k 0 = f := by rw [List.getD_eq_getElem?_getD, h2]; rfl
 rw [h4] at h3
 simp only [Bool.or_eq_true, decide_eq_true_eq, Bool.not_eq_true', List.contains_eq_mem, decide_eq_false_iff_not] at h3
 rcases h3 with h3 | h3
 ·omega
 ·show yl k = none
  unfold yl
  split <;> first | rfl | (exfalso; apply h3; decide), fun T i h => by
 obtain ⟨_, h2⟩ := idxIn_some (show idxIn T [223, 244, 3, 342] 0 = some i from h)
 show (if i + 1 = 0 then p.errT else ([223, 244, 3, 342] : List Nat).getD (i + 1 - 1) 0) = T
 rw [if_neg (by omega), List.getD_eq_getElem?_getD, show ([223, 244, 3, 342] : List Nat)[i + 1 - 1]? = some T by simpa using h2]; rfl, fun t h => by
 simp [E] at h⟩
theorem mixed : Tryz.prog.follows .mixedOrders = true := by kernel_rfl
section
variable {p : Ps}
theorem o0 : FnS E (N0 p) 0 f_law45_CoverRates := fnS [0, 2, 3, 4, 5, 6] {  } Tryz.func3 (by kernel_rfl) (by decide)
theorem o1 : FnS E (N0 p) 1 f_law45_lives := fnS [0, 1, 2, 3, 4, 5, 6, 7, 8] {  } Tryz.func4 (by kernel_rfl) (by decide)
theorem o2 : FnS E (N0 p) 2 f_cover_Rate := fnS [0, 2, 3, 5, 6, 7, 8] {  } Tryz.func5 (by kernel_rfl) (by decide)
theorem o3 : FnS E (N0 p) 3 f_ref45_Rate := fnS [0, 2, 3, 4] {  } Tryz.func6 (by kernel_rfl) (by decide)
theorem o4 : FnS E (N0 p) 4 f_cover_Goals := fnS [0, 1, 2, 4, 5, 6, 7, 8, 9, 11, 12, 28, 29, 30] {  } Tryz.func7 (by kernel_rfl) (by decide)
theorem o5 : FnS E (N0 p) 5 f_law45_example := fnS [0, 1, 2, 3, 4] { hv := [5, 9], lv := true } Tryz.func8 (by kernel_rfl) (by decide)
theorem o6 : FnS E (N0 p) 6 f_cover_Hits := fnS [0, 1, 2, 3, 6, 7, 8, 9, 10, 12, 13, 15, 16, 17, 18, 47, 48, 49, 59, 60] { hs := [13] } Tryz.func9 (by kernel_rfl) (by decide)
theorem o7 : FnS E (N0 p) 7 f_ref45_Bools := fnS [0, 1, 4, 5] {  } Tryz.func10 (by kernel_rfl) (by decide)
theorem o8 : FnS E (N0 p) 8 f_cover_plain := fnS [0, 1, 2, 4, 5, 6, 7, 8, 9, 10] {  } Tryz.func11 (by kernel_rfl) (by decide)
theorem o9 : FnS E (N0 p) 9 f_cover_parts := fnS [0, 1, 2, 3, 5, 6, 7, 8, 9, 10, 11, 13, 15, 18, 19, 20, 31, 32, 33, 46, 47, 48, 65, 66, 67, 88, 89, 90] { ox := [(19, some 0)], lv := true } Tryz.func12 (by kernel_rfl) (by decide)
theorem o10 : FnS E (N0 p) 10 f_law45_example_1 := fnS [0, 2] {  } Tryz.func13 (by kernel_rfl) (by decide)
theorem o11 : FnS E (N0 p) 11 f_cover_Probe := fnS [0, 1, 2, 4, 5, 6, 7, 8, 9, 10, 11, 13, 14, 16, 18, 19, 115, 116, 117, 158, 159, 160] { hs := [10], hf := [21, 26, 27], rs := [32], ox := [(22, none), (23, none)], lf := [26, 27], lv := true } Tryz.func14 (by kernel_rfl) (by decide)
theorem o12 : FnS E (N0 p) 12 f_sim_Run := fnS [0, 1, 2, 3, 6, 7, 8, 9, 10, 11, 13, 14, 15, 30, 31, 32] { hs := [8], hf := [30], hv := [37] } Tryz.func15 (by kernel_rfl) (by decide)
theorem o13 : FnS E (N0 p) 13 f_accept_Plain := fnS [0, 1, 2, 3, 4, 5, 6, 9] { hs := [4, 9], hf := [32] } Tryz.func16 (by kernel_rfl) (by decide)
theorem o14 : FnS E (N0 p) 14 f_shape_Find := fnS [0, 1, 2, 3, 4, 5, 6] {  } Tryz.func17 (by kernel_rfl) (by decide)
theorem o15 : FnS E (N0 p) 15 f_scope_Vars := fnS [0, 1, 2, 3, 4, 5, 14, 15, 16] { hf := [35], rs := [47] } Tryz.func18 (by kernel_rfl) (by decide)
theorem o16 : FnS E (N0 p) 16 f_cover_decisions := fnS [0, 1, 2, 4, 6, 7, 8, 9, 23, 24, 25, 32] { ox := [(19, some 0), (1000000, none)] } Tryz.func19 (by kernel_rfl) (by decide)
theorem o17 : FnS E (N0 p) 17 f_cover_conditions := fnS [0, 1, 2, 3, 5, 32, 33, 34] {  } Tryz.func20 (by kernel_rfl) (by decide)
theorem o18 : FnS E (N0 p) 18 f_slices_Clone_api_Node := fnS [0, 2] { rs := [32], kp := true } Tryz.func21 (by kernel_rfl) (by decide)
theorem o19 : FnS E (N0 p) 19 f_slices_Clone_api_Decl := fnS [0, 2] { ox := [(1000000, none)] } Tryz.func22 (by kernel_rfl) (by decide)
theorem o20 : FnS E (N0 p) 20 f_slices_Clone_api_Eq := fnS [0, 2] { ox := [(1000000, none)] } Tryz.func23 (by kernel_rfl) (by decide)
theorem o21 : FnS E (N0 p) 21 f_slices_ContainsFunc_cover_part := fnS [0, 1, 4] { hf := [37] } Tryz.func24 (by kernel_rfl) (by decide)
theorem o22 : FnS E (N0 p) 22 f_cover_Probe_1 := fnS [0, 1, 2] {  } Tryz.func25 (by kernel_rfl) (by decide)
theorem o23 : FnS E (N0 p) 23 f_starts_Of := fnS [0, 1, 2, 3, 5, 6, 7, 9, 11] { hf := [40, 41] } Tryz.func26 (by kernel_rfl) (by decide)
theorem o24 : FnS E (N0 p) 24 f_scope_Fresh := fnS [0, 1, 2, 4, 5, 6, 7] { hf := [42] } Tryz.func27 (by kernel_rfl) (by decide)
theorem o25 : FnS E (N0 p) 25 f_cover_spread := fnSL [0, 1, 2, 3, 4, 6, 12] { hs := [3, 4], hf := [44], lps := [(#[13, 14], 339, [3, 4])] } [#[13, 14]] Tryz.func28 (by kernel_rfl) (by decide) (by decide) ⟨⟨0, rfl, rfl⟩, trivial⟩
theorem o26 : FnS E (N0 p) 26 f_cover_missed := fnS [0, 1, 2, 6, 7] {  } Tryz.func29 (by kernel_rfl) (by decide)
theorem o27 : FnS E (N0 p) 27 f_sim_New := fnS [0, 1, 2, 4, 5, 6, 7, 8, 9, 10, 11, 12, 13, 14, 15, 16, 61] { hs := [4, 16, 61], hf := [52] } Tryz.func30 (by kernel_rfl) (by decide)
theorem o28 : FnS E (N0 p) 28 f_sim_Sim_Step := fnS [0, 1, 4, 5, 6, 7, 8, 9, 10, 11, 12, 13, 15, 35, 36, 37, 109, 125, 126, 127] { hs := [0, 10, 12], hf := [54, 55, 56, 57], lv := true } Tryz.func31 (by kernel_rfl) (by decide)
theorem o29 : FnS E (N0 p) 29 f_accept_checker_run := fnS [0, 2, 3, 4, 6, 7, 8, 24, 25] { hs := [0], hv := [29] } Tryz.func32 (by kernel_rfl) (by decide)
theorem o30 : FnS E (N0 p) 30 f_slices_IndexFunc_api_Node := fnS [0, 1, 4, 5, 7, 8] { hv := [11] } Tryz.func33 (by kernel_rfl) (by decide)
theorem o31 : FnS E (N0 p) 31 f_shape_Find_1 := fnS [0, 1, 2, 3] {  } Tryz.func34 (by kernel_rfl) (by decide)
theorem o32 : FnS E (N0 p) 32 f_slices_Concat_api_Decl := fnS [0, 2, 3, 5, 6, 8, 9, 10, 11, 25, 26, 27] { hf := [63], rs := [47], nl := true, kp := true } Tryz.func35 (by kernel_rfl) (by decide)
theorem o33 : FnS E (N0 p) 33 f_slices_Clone_api_On := fnS [0, 2] {  } Tryz.func36 (by kernel_rfl) (by decide)
theorem o34 : FnS E (N0 p) 34 f_slices_IndexFunc_cover_part := fnS [0, 1, 4, 5, 7, 8] { hv := [11] } Tryz.func37 (by kernel_rfl) (by decide)
theorem o35 : FnS E (N0 p) 35 f_starts_Late := fnS [0, 1, 2, 4, 5, 6, 7, 8, 9, 11, 40, 41, 42] { hf := [41] } Tryz.func38 (by kernel_rfl) (by decide)
theorem o36 : FnS E (N0 p) 36 f_types_Of := fnS [0, 1, 2, 3, 5, 6, 7, 8] {  } Tryz.func39 (by kernel_rfl) (by decide)
theorem o37 : FnS E (N0 p) 37 f_starts_late := fnS [0, 1, 3, 4, 6, 15] { hf := [67] } Tryz.func40 (by kernel_rfl) (by decide)
theorem o38 : FnS E (N0 p) 38 f_starts_lates := fnS [0, 1, 2, 3, 4] { hv := [7] } Tryz.func41 (by kernel_rfl) (by decide)
theorem o39 : FnS E (N0 p) 39 f_scope_known := fnS [0, 1, 2, 3, 5, 7, 9, 12, 13, 14, 22, 23, 24, 33, 34, 35] { hs := [3], hf := [69, 70, 71] } Tryz.func42 (by kernel_rfl) (by decide)
theorem o41 : FnS E (N0 p) 41 f_slices_Backward_api_On := fnS [0, 1, 2] {  } Tryz.func44 (by kernel_rfl) (by decide)
theorem o44 : FnS E (N0 p) 44 f_types_Check := fnS [0, 1, 2, 3, 4, 5, 6, 7, 8, 9, 10, 11, 12, 23, 24, 25, 36, 37, 38] { lv := true } Tryz.func47 (by kernel_rfl) (by decide)
theorem o45 : FnS E (N0 p) 45 f_modes_Expand := fnS [0, 1, 2, 3, 4, 5, 6, 7, 9, 10, 11, 27, 29, 30, 31] { hs := [6, 27], hf := [82, 84] } Tryz.func48 (by kernel_rfl) (by decide)
theorem o46 : FnS E (N0 p) 46 f_clocks_Check := fnS [0, 1, 2, 3, 4, 5, 6, 7, 8, 9, 24, 25, 26] {  } Tryz.func49 (by kernel_rfl) (by decide)
theorem o47 : FnS E (N0 p) 47 f_cause_Check := fnS [0, 1, 2, 3, 4, 5, 6, 7, 8, 9, 20, 21, 22] {  } Tryz.func50 (by kernel_rfl) (by decide)
theorem o48 : FnS E (N0 p) 48 f_sim_program := fnS [0, 1, 2, 3, 4, 6, 8, 10, 11, 12, 28, 29, 30] { hv := [54, 58] } Tryz.func51 (by kernel_rfl) (by decide)
theorem o49 : FnS E (N0 p) 49 f_sim_Sim_Reset := fnS [0] { hs := [0], hf := [97] } Tryz.func52 (by kernel_rfl) (by decide)
theorem o50 : FnS E (N0 p) 50 f_value_Has := fnS [0, 1, 2, 6] {  } Tryz.func53 (by kernel_rfl) (by decide)
theorem o51 : FnS E (N0 p) 51 f_sim_execute := fnS [0, 1, 2, 3, 6, 7, 8, 9, 10, 12, 23, 33, 34, 35, 51, 52, 53] { hs := [1, 6, 8, 23], hf := [57, 100, 101, 103], lv := true } Tryz.func54 (by kernel_rfl) (by decide)
theorem o52 : FnS E (N0 p) 52 f_sim_frame_both := fnS [0, 1, 4, 5, 7, 8, 10, 11, 12] { hs := [0, 7], hv := [19] } Tryz.func55 (by kernel_rfl) (by decide)
theorem o53 : FnS E (N0 p) 53 f_sim_instant_rest := fnS [0, 2, 3, 4] { hs := [0, 3], hv := [42], sr := true, lv := true } Tryz.func56 (by kernel_rfl) (by decide)
theorem o54 : FnS E (N0 p) 54 f_sim_frame_cell := fnS [0, 1, 4, 5, 6] { hs := [0, 5, 6], hf := [104, 105] } Tryz.func57 (by kernel_rfl) (by decide)
theorem o55 : FnS E (N0 p) 55 f_accept_checker_types := fnS [0, 2, 3] { hs := [0] } Tryz.func58 (by kernel_rfl) (by decide)
theorem o56 : FnS E (N0 p) 56 f_accept_checker_expand := fnS [0, 2, 3, 4, 5] { hs := [0] } Tryz.func59 (by kernel_rfl) (by decide)
theorem o57 : FnS E (N0 p) 57 f_accept_checker_clocks := fnS [0, 2, 3] { hs := [0] } Tryz.func60 (by kernel_rfl) (by decide)
theorem o58 : FnS E (N0 p) 58 f_accept_checker_starts := fnS [0, 2, 3] { hs := [0] } Tryz.func61 (by kernel_rfl) (by decide)
theorem o59 : FnS E (N0 p) 59 f_accept_checker_order := fnS [0, 2, 3] { hs := [0] } Tryz.func62 (by kernel_rfl) (by decide)
theorem o60 : FnS E (N0 p) 60 f_slices_Grow_api_Decl := fnS [0, 1, 4] { rs := [47], kp := true } Tryz.func63 (by kernel_rfl) (by decide)
theorem o61 : FnS E (N0 p) 61 f_starts_ask := fnS [0, 1, 2, 3] {  } Tryz.func64 (by kernel_rfl) (by decide)
theorem o62 : FnS E (N0 p) 62 f_shape_Expr := fnSL [0, 1, 2, 3, 4, 5, 14] { hs := [2, 4], hf := [73], lps := [(#[15], 340, [2, 4])] } [#[15]] Tryz.func65 (by kernel_rfl) (by decide) (by decide) ⟨⟨0, rfl, rfl⟩, trivial⟩
theorem o63 : FnS E (N0 p) 63 f_types_place_results := fnS [0, 1, 2, 3, 4, 6, 7, 8, 9, 10, 11, 12, 13, 25, 74, 84] {  } Tryz.func66 (by kernel_rfl) (by decide)
theorem o64 : FnS E (N0 p) 64 f_starts_some := fnS [0, 1, 4, 6, 7, 8, 9] { hf := [40] } Tryz.func67 (by kernel_rfl) (by decide)
theorem o65 : FnS E (N0 p) 65 f_starts_lates_1 := fnS [0, 1, 2, 3, 5, 7, 8, 9] { hf := [40] } Tryz.func68 (by kernel_rfl) (by decide)
theorem o66 : FnS E (N0 p) 66 f_scope_gather := fnS [0, 1, 5, 7, 8, 9, 10, 18, 19, 20] {  } Tryz.func69 (by kernel_rfl) (by decide)
theorem o67 : FnS E (N0 p) 67 f_scope_states := fnS [0, 1, 2, 7, 9, 11, 13, 14, 15, 16, 21, 22, 23, 31, 32, 33, 38, 39, 40] { hf := [69, 70] } Tryz.func70 (by kernel_rfl) (by decide)
theorem o68 : FnS E (N0 p) 68 f_scope_every := fnS [0, 1, 2, 5, 17, 18, 19] { hf := [115], hv := [23] } Tryz.func71 (by kernel_rfl) (by decide)
theorem o69 : FnS E (N0 p) 69 f_scope_known_1 := fnSL [0, 1, 2, 5] { hs := [1], hf := [73], lps := [(#[6], 341, [1])] } [#[6]] Tryz.func72 (by kernel_rfl) (by decide) (by decide) ⟨⟨0, rfl, rfl⟩, trivial⟩
theorem o70 : FnS E (N0 p) 70 f_slices_Backward_api_On_1 := fnS [0, 1, 3] { hv := [11] } Tryz.func75 (by kernel_rfl) (by decide)
theorem o71 : FnS E (N0 p) 71 f_scope_Check := fnS [0, 1, 2, 3, 4, 5, 6, 7, 8, 10, 11, 26, 28, 29, 30, 42, 43, 44, 57, 58] { hs := [2, 3, 6, 26], hf := [121, 122], bf := [121, 122] } Tryz.func76 (by kernel_rfl) (by decide)
theorem o72 : FnS E (N0 p) 72 f_types_place_equation := fnS [0, 1, 2, 3, 4, 5, 6, 7, 8, 9, 28, 29, 30] {  } Tryz.func77 (by kernel_rfl) (by decide)
theorem o73 : FnS E (N0 p) 73 f_types_first_api_Auto := fnS [0, 1, 4, 6, 7, 8, 9, 10] { hv := [14] } Tryz.func78 (by kernel_rfl) (by decide)
theorem o75 : FnS E (N0 p) 75 f_types_first_api_Expr := fnS [0, 1, 4, 6, 7, 8, 9, 10] { hv := [14] } Tryz.func80 (by kernel_rfl) (by decide)
theorem o77 : FnS E (N0 p) 77 f_modes_newAdder := fnS [0, 1, 2, 3, 5, 7, 10, 12, 13, 14, 29, 30, 31] { hs := [2, 10], hf := [125, 126, 127, 128] } Tryz.func82 (by kernel_rfl) (by decide)
theorem o78 : FnS E (N0 p) 78 f_slices_Clone_api_Enum := fnS [0, 2] {  } Tryz.func83 (by kernel_rfl) (by decide)
theorem o79 : FnS E (N0 p) 79 f_modes_expander_node := fnS [0, 1, 3, 4, 5, 6, 7, 9, 11, 23, 24, 25, 37, 38, 39] { hs := [0, 5], hf := [84, 130] } Tryz.func84 (by kernel_rfl) (by decide)
theorem o80 : FnS E (N0 p) 80 f_shape_Check := fnS [0, 1, 2, 3, 4, 6, 7, 8, 14, 28, 29, 30, 39, 40, 41] { hs := [2, 3, 4, 14], hf := [132, 133, 134], bf := [132, 133, 134] } Tryz.func85 (by kernel_rfl) (by decide)
theorem o81 : FnS E (N0 p) 81 f_modes_copied := fnS [0, 1, 2, 3] {  } Tryz.func86 (by kernel_rfl) (by decide)
theorem o82 : FnS E (N0 p) 82 f_shape_Plain := fnS [0, 1, 2] {  } Tryz.func87 (by kernel_rfl) (by decide)
theorem o83 : FnS E (N0 p) 83 f_clocks_checker_node := fnS [0, 1, 2, 3, 4, 5, 6, 7, 8, 10, 12, 13, 20, 21, 22, 39, 40, 43, 44, 45] {  } Tryz.func88 (by kernel_rfl) (by decide)
theorem o84 : FnS E (N0 p) 84 f_cause_whole := fnS [0, 1, 2, 3, 4, 5] {  } Tryz.func89 (by kernel_rfl) (by decide)
theorem o85 : FnS E (N0 p) 85 f_cause_loop := fnS [0, 1, 2, 3, 4, 6, 7, 9, 10, 12, 14, 36, 37, 38, 51, 52, 53] { hs := [9], hv := [45, 62], rs := [38] } Tryz.func90 (by kernel_rfl) (by decide)
theorem o86 : FnS E (N0 p) 86 f_sim_program_1 := fnS [0, 2, 3, 5, 6, 7, 8] {  } Tryz.func91 (by kernel_rfl) (by decide)
theorem o87 : FnS E (N0 p) 87 f_slices_Clone_string := fnS [0, 2] {  } Tryz.func93 (by kernel_rfl) (by decide)
theorem o88 : FnS E (N0 p) 88 f_sim_decls := fnS [0, 2, 3, 5, 6, 7, 8] {  } Tryz.func94 (by kernel_rfl) (by decide)
theorem o89 : FnS E (N0 p) 89 f_sim_equations := fnS [0, 2, 3, 5, 6, 7, 8] {  } Tryz.func95 (by kernel_rfl) (by decide)
theorem o90 : FnS E (N0 p) 90 f_sim_copies := fnS [0, 2, 3, 5, 6, 8, 9, 10, 11, 16, 17, 18] {  } Tryz.func96 (by kernel_rfl) (by decide)
theorem o91 : FnS E (N0 p) 91 f_sim_node := fnS [0, 1, 2, 4, 5, 29] { hs := [4, 29], hf := [154, 156, 157] } Tryz.func97 (by kernel_rfl) (by decide)
theorem o92 : FnS E (N0 p) 92 f_word_In := fnS [0, 2] {  } Tryz.func98 (by kernel_rfl) (by decide)
theorem o93 : FnS E (N0 p) 93 f_value_Size := fnS [0, 1, 4, 5, 7] {  } Tryz.func99 (by kernel_rfl) (by decide)
theorem o94 : FnS E (N0 p) 94 f_sim_enter := fnS [0, 1, 2, 3, 4, 5, 12, 13, 15, 23, 24, 25, 26, 46] { hs := [0, 1, 2, 12, 13, 23, 46], lv := true } Tryz.func100 (by kernel_rfl) (by decide)
theorem o95 : FnS E (N0 p) 95 f_sim_frame_set := fnS [0, 1, 2, 5, 6] { hs := [0, 6], hf := [104] } Tryz.func101 (by kernel_rfl) (by decide)
theorem o96 : FnS E (N0 p) 96 f_sim_nth := fnS [0, 1, 4] {  } Tryz.func102 (by kernel_rfl) (by decide)
theorem o97 : FnS E (N0 p) 97 f_sim_frame_all := fnS [0, 2, 3, 4, 5, 6, 7, 8, 9, 10, 11, 12, 17, 18, 28, 29, 30, 69, 70, 71] { hs := [0, 5, 6, 11], hf := [103, 160, 161], hv := [89], rs := [38], sr := true, lv := true } Tryz.func103 (by kernel_rfl) (by decide)
theorem o98 : FnS E (N0 p) 98 f_sim_frame_find := fnS [0, 1, 4, 5, 6, 7] { hs := [0, 4, 5, 6, 7] } Tryz.func104 (by kernel_rfl) (by decide)
theorem o100 : FnS E (N0 p) 100 f_starts_Check := fnS [0, 1, 2, 3, 4, 5, 6, 7, 8, 9, 20, 21, 22] {  } Tryz.func106 (by kernel_rfl) (by decide)
theorem o101 : FnS E (N0 p) 101 f_expr_Each := fnS [0, 1, 2] {  } Tryz.func73 (by kernel_rfl) (by decide)
theorem o102 : FnS E (N0 p) 102 f_expr_Check := fnSL [0, 1, 2, 14] { hs := [2], hf := [73], lps := [(#[15], 342, [2])] } [#[15]] Tryz.func107 (by kernel_rfl) (by decide) (by decide) ⟨⟨0, rfl, rfl⟩, trivial⟩
theorem o103 : FnS E (N0 p) 103 f_shape_inside := fnS [0, 1, 3, 4, 5, 11, 12] {  } Tryz.func108 (by kernel_rfl) (by decide)
theorem o104 : FnS E (N0 p) 104 f_types_place_args := fnS [0, 1, 2, 4, 5, 6, 8, 9, 10, 11, 12, 13] {  } Tryz.func109 (by kernel_rfl) (by decide)
theorem o105 : FnS E (N0 p) 105 f_types_place_typeOf := fnS [0, 1, 2, 3, 4, 5, 6] {  } Tryz.func110 (by kernel_rfl) (by decide)
theorem o106 : FnS E (N0 p) 106 f_value_Result := fnS [0, 1, 4, 5, 6, 7, 9, 23, 24, 25, 29] {  } Tryz.func111 (by kernel_rfl) (by decide)
theorem o110 : FnS E (N0 p) 110 f_scope_expressions := fnS [0, 1, 2, 7, 9, 11, 13, 14, 15, 16, 25, 26, 27, 32, 33, 34, 49, 50, 51] { hf := [115], hv := [20, 55] } Tryz.func115 (by kernel_rfl) (by decide)
theorem o111 : FnS E (N0 p) 111 f_slices_Concat_api_Expr := fnS [0, 2, 3, 5, 6, 8, 9, 10, 11, 25, 26, 27] { hf := [172], rs := [50], nl := true } Tryz.func116 (by kernel_rfl) (by decide)
theorem o113 : FnS E (N0 p) 113 f_scope_look_add := fnS [0, 1, 2, 4, 7] { hs := [0], hf := [177], bf := [177] } Tryz.func121 (by kernel_rfl) (by decide)
theorem o114 : FnS E (N0 p) 114 f_scope_look_node := fnS [0, 1, 4, 5, 7, 8, 9, 11, 13, 49, 50, 51, 63, 64, 65, 86, 87, 88, 121, 122, 123] { hs := [0, 4, 5], hf := [121, 177, 178, 179, 180, 181, 182, 183], bf := [121, 177, 179, 180, 181, 182, 183] } Tryz.func122 (by kernel_rfl) (by decide)
theorem o117 : FnS E (N0 p) 117 f_modes_adder_avoid := fnS [0, 1, 5, 6, 7, 8] { hs := [0] } Tryz.func125 (by kernel_rfl) (by decide)
theorem o118 : FnS E (N0 p) 118 f_modes_adder_decls := fnS [0, 1, 5, 7, 8, 9, 10, 20, 21, 22] { hs := [0], hf := [125] } Tryz.func126 (by kernel_rfl) (by decide)
theorem o119 : FnS E (N0 p) 119 f_modes_adder_body := fnS [0, 1, 2, 7, 9, 11, 13, 14, 15, 16, 30, 31, 32, 37, 38, 39, 63, 64, 65] { hs := [0], hf := [125, 126, 127, 128], lv := true } Tryz.func127 (by kernel_rfl) (by decide)
theorem o120 : FnS E (N0 p) 120 f_modes_adder_exprs := fnSL [0, 1, 2, 5, 7, 8, 9, 14] { hs := [0, 2], hf := [73], lps := [(#[15], 343, [2])] } [#[15]] Tryz.func128 (by kernel_rfl) (by decide) (by decide) ⟨⟨0, rfl, rfl⟩, trivial⟩
theorem o124 : FnS E (N0 p) 124 f_shape_look_must := fnS [0, 1, 2] { hs := [0] } Tryz.func132 (by kernel_rfl) (by decide)
theorem o126 : FnS E (N0 p) 126 f_shape_look_node := fnS [0, 1, 2, 5, 6, 7, 9, 11, 13, 80, 81, 82, 101, 102, 103, 112, 113, 114, 128, 129, 130] { hs := [0], hf := [132, 195, 196, 197, 198, 199], bf := [132, 195, 196, 197, 198, 199] } Tryz.func134 (by kernel_rfl) (by decide)
theorem o127 : FnS E (N0 p) 127 f_modes_mapped_api_Enum := fnS [0, 1, 4, 5, 6, 7, 8, 9, 10] { hv := [16] } Tryz.func135 (by kernel_rfl) (by decide)
theorem o129 : FnS E (N0 p) 129 f_modes_mapped_api_Node := fnS [0, 1, 4, 5, 6, 7, 8, 9, 10] { hv := [16] } Tryz.func137 (by kernel_rfl) (by decide)
theorem o130 : FnS E (N0 p) 130 f_modes_copied_2 := fnS [0, 1, 3, 4, 5] {  } Tryz.func138 (by kernel_rfl) (by decide)
theorem o131 : FnS E (N0 p) 131 f_slices_ContainsFunc_api_Node := fnS [0, 1, 4] { hf := [33] } Tryz.func143 (by kernel_rfl) (by decide)
theorem o132 : FnS E (N0 p) 132 f_shape_Plain_1 := fnS [0, 1, 2] {  } Tryz.func144 (by kernel_rfl) (by decide)
theorem o133 : FnS E (N0 p) 133 f_clocks_checker_decls := fnS [0, 1, 2, 4, 6, 7, 8, 9, 10, 11, 12, 13, 18, 19, 20] {  } Tryz.func145 (by kernel_rfl) (by decide)
theorem o134 : FnS E (N0 p) 134 f_clocks_checker_equation := fnS [0, 1, 2, 3, 4, 5, 8, 19, 20, 21] { lv := true } Tryz.func146 (by kernel_rfl) (by decide)
theorem o135 : FnS E (N0 p) 135 f_clocks_checker_fits := fnS [0, 1, 2, 3, 4, 5, 6, 7, 8, 9, 10, 11, 14, 15, 73, 74, 75] { hv := [82] } Tryz.func147 (by kernel_rfl) (by decide)
theorem o136 : FnS E (N0 p) 136 f_cause_edges := fnS [0, 1, 2, 3, 4, 5, 7, 8, 10, 11, 12, 13, 14, 16, 18, 20, 23, 24, 25, 31, 32, 33, 44, 45, 46, 57, 58, 59, 67, 68, 69, 78, 79, 80, 86, 87, 88] { hs := [11], hf := [213, 217], hv := [73, 92], rs := [262] } Tryz.func148 (by kernel_rfl) (by decide)
theorem o137 : FnS E (N0 p) 137 f_graph_Order := fnS [0, 1, 4, 5, 6, 7, 9, 11, 12, 13, 14, 15, 16, 18, 28, 29, 30, 34, 35, 36, 49, 50, 51, 52, 81, 82, 83] { hs := [7, 12, 49], hf := [220, 221, 222], rs := [38, 343], pz := [219] } Tryz.func149 (by kernel_rfl) (by decide)
theorem o140 : FnS E (N0 p) 140 f_expr_Rename := fnS [0, 1, 2, 3, 6, 7, 8, 9, 25, 26, 27] { hs := [7] } Tryz.func92 (by kernel_rfl) (by decide)
theorem o142 : FnS E (N0 p) 142 f_sim_list_api_Eq := fnS [0, 1, 2, 3, 6, 7, 9, 10, 11, 12] { hf := [224], hv := [18] } Tryz.func154 (by kernel_rfl) (by decide)
theorem o143 : FnS E (N0 p) 143 f_sim_right := fnS [0, 1, 2] {  } Tryz.func155 (by kernel_rfl) (by decide)
theorem o144 : FnS E (N0 p) 144 f_sim_automata := fnS [0, 1, 2, 4, 5, 7, 8, 10, 11, 12, 13, 18, 20, 21, 22] { hs := [8, 18], hf := [225], lv := true } Tryz.func156 (by kernel_rfl) (by decide)
theorem o145 : FnS E (N0 p) 145 f_sim_list_api_Expr := fnS [0, 1, 2, 3, 6, 7, 9, 10, 11, 12] { hf := [224], hv := [18] } Tryz.func157 (by kernel_rfl) (by decide)
theorem o147 : FnS E (N0 p) 147 f_value_enum := fnS [0, 1, 4, 5] {  } Tryz.func159 (by kernel_rfl) (by decide)
theorem o148 : FnS E (N0 p) 148 f_sim_frame_equation := fnS [0, 1, 4, 5, 6, 8, 9, 10, 11, 12, 89, 90, 91] { hs := [0, 5, 6], hf := [101, 104, 226, 227], hv := [76], rs := [22], lv := true } Tryz.func160 (by kernel_rfl) (by decide)
theorem o150 : FnS E (N0 p) 150 f_slices_Contains_string := fnS [0, 1, 4] { hf := [228], rs := [61] } Tryz.func162 (by kernel_rfl) (by decide)
theorem o152 : FnS E (N0 p) 152 f_starts_node := fnS [0, 1, 2, 3, 4, 5, 6, 8, 10, 12, 14, 16, 20, 21, 22, 34, 35, 36, 46, 47, 48, 53, 54, 55, 69, 70, 71, 75, 76, 77] { hf := [40, 41, 230] } Tryz.func164 (by kernel_rfl) (by decide)
theorem o153 : FnS E (N0 p) 153 f_expr_Each_1 := fnS [0, 1] { hf := [118], bf := [118] } Tryz.func117 (by kernel_rfl) (by decide)
theorem o154 : FnS E (N0 p) 154 f_expr_Size := fnSL [0, 1, 2, 3, 5] { hs := [3], hf := [73], lps := [(#[6], 344, [3])] } [#[6]] Tryz.func165 (by kernel_rfl) (by decide) (by decide) ⟨⟨0, rfl, rfl⟩, trivial⟩
theorem o155 : FnS E (N0 p) 155 f_expr_Depth := fnS [0, 1, 2, 3, 5, 7, 8, 9] {  } Tryz.func166 (by kernel_rfl) (by decide)
theorem o156 : FnS E (N0 p) 156 f_expr_one := fnS [0, 1, 2, 3, 4, 5] {  } Tryz.func167 (by kernel_rfl) (by decide)
theorem o157 : FnS E (N0 p) 157 f_slices_IndexFunc_api_Decl := fnS [0, 1, 4, 5, 7, 8] { hv := [11] } Tryz.func168 (by kernel_rfl) (by decide)
theorem o158 : FnS E (N0 p) 158 f_types_place_typeOf_1 := fnS [0, 1, 2, 3] {  } Tryz.func169 (by kernel_rfl) (by decide)
theorem o159 : FnS E (N0 p) 159 f_value_group := fnS [0, 2, 3, 4, 7, 13, 19, 22] {  } Tryz.func170 (by kernel_rfl) (by decide)
theorem o161 : FnS E (N0 p) 161 f_slices_Grow_api_Expr := fnS [0, 1, 4] { rs := [50], kp := true } Tryz.func172 (by kernel_rfl) (by decide)
theorem o162 : FnS E (N0 p) 162 f_scope_look_must := fnS [0, 1, 2] { hs := [0] } Tryz.func177 (by kernel_rfl) (by decide)
theorem o163 : FnS E (N0 p) 163 f_scope_names_inner := fnS [0, 2, 7] { hs := [0, 2, 7] } Tryz.func178 (by kernel_rfl) (by decide)
theorem o164 : FnS E (N0 p) 164 f_scope_look_declare := fnS [0, 1, 2, 7, 9, 10, 11, 12] { hs := [0, 1], hf := [177, 240], bf := [177] } Tryz.func179 (by kernel_rfl) (by decide)
theorem o165 : FnS E (N0 p) 165 f_scope_look_samplings := fnS [0, 1, 2, 7, 9, 10, 11, 12, 17, 18, 19] { hs := [0, 1], hf := [177, 240], bf := [177] } Tryz.func180 (by kernel_rfl) (by decide)
theorem o166 : FnS E (N0 p) 166 f_scope_look_equation := fnS [0, 1, 2, 3, 7, 9, 11, 12, 13] { hs := [0, 2], hf := [177, 240, 241, 242], rs := [61], bf := [177, 242] } Tryz.func181 (by kernel_rfl) (by decide)
theorem o168 : FnS E (N0 p) 168 f_scope_look_claims := fnS [0, 1, 2, 3, 8, 10, 12, 15, 16, 17, 28, 29, 30] { hs := [0, 8], hf := [35, 178, 242], rs := [47], bf := [242] } Tryz.func183 (by kernel_rfl) (by decide)
theorem o180 : FnS E (N0 p) 180 f_shape_look_ident := fnS [0, 1] { hs := [0], hf := [132], bf := [132] } Tryz.func195 (by kernel_rfl) (by decide)
theorem o181 : FnS E (N0 p) 181 f_shape_look_decls := fnS [0, 1, 2, 7, 9, 10, 11, 12, 47, 48, 49] { hs := [0], hf := [132, 195], bf := [132, 195] } Tryz.func196 (by kernel_rfl) (by decide)
theorem o182 : FnS E (N0 p) 182 f_shape_look_equation := fnS [0, 1, 3, 5, 19, 20, 21] { hs := [0], hf := [132, 195, 199], bf := [132, 195, 199] } Tryz.func197 (by kernel_rfl) (by decide)
theorem o184 : FnS E (N0 p) 184 f_shape_look_right := fnS [0, 1] { hs := [0], hf := [132], bf := [132] } Tryz.func199 (by kernel_rfl) (by decide)
theorem o185 : FnS E (N0 p) 185 f_modes_mapped_api_Eq := fnS [0, 1, 4, 5, 6, 7, 8, 9, 10] { hv := [16] } Tryz.func139 (by kernel_rfl) (by decide)
theorem o186 : FnS E (N0 p) 186 f_modes_copied_2_1 := fnS [0, 1, 3, 4] {  } Tryz.func140 (by kernel_rfl) (by decide)
theorem o187 : FnS E (N0 p) 187 f_modes_exprs := fnS [0, 2] {  } Tryz.func141 (by kernel_rfl) (by decide)
theorem o188 : FnS E (N0 p) 188 f_modes_decls := fnS [0, 2] {  } Tryz.func142 (by kernel_rfl) (by decide)
theorem o189 : FnS E (N0 p) 189 f_clocks_checker_find := fnS [0, 1, 2, 3, 4, 5, 6] {  } Tryz.func204 (by kernel_rfl) (by decide)
theorem o190 : FnS E (N0 p) 190 f_clocks_Same := fnS [0, 1, 4] {  } Tryz.func205 (by kernel_rfl) (by decide)
theorem o191 : FnS E (N0 p) 191 f_clocks_checker_on := fnS [0, 1, 2, 3, 6, 7, 8] {  } Tryz.func206 (by kernel_rfl) (by decide)
theorem o192 : FnS E (N0 p) 192 f_clocks_checker_fits_1 := fnS [0, 1, 3] {  } Tryz.func207 (by kernel_rfl) (by decide)
theorem o195 : FnS E (N0 p) 195 f_cause_edges_1 := fnS [0, 1, 2, 3, 5, 6] { hs := [2], rs := [262] } Tryz.func211 (by kernel_rfl) (by decide)
theorem o196 : FnS E (N0 p) 196 f_expr_Instant := fnS [0, 1, 2] { ox := [(274, some 0)] } Tryz.func212 (by kernel_rfl) (by decide)
theorem o199 : FnS E (N0 p) 199 f_slices_Compact_api_Edge := fnS [0, 2, 3, 4, 5] { rs := [262], kp := true } Tryz.func217 (by kernel_rfl) (by decide)
theorem o200 : FnS E (N0 p) 200 f_graph_valid := fnS [0, 1, 2, 3, 6, 7, 9, 17, 18, 19] { hv := [23, 29] } Tryz.func218 (by kernel_rfl) (by decide)
theorem o201 : FnS E (N0 p) 201 f_graph_neighbours := fnS [0, 1, 4, 5, 7, 8, 11, 12, 13, 32, 33] { hs := [5], hf := [281, 282], rs := [38, 39] } Tryz.func219 (by kernel_rfl) (by decide)
theorem o202 : FnS E (N0 p) 202 f_container_heap_Push := fnS [0, 1] { hf := [283] } Tryz.func220 (by kernel_rfl) (by decide)
theorem o203 : FnS E (N0 p) 203 f_graph_least_Len := fnS [0, 2] {  } Tryz.func221 (by kernel_rfl) (by decide)
theorem o204 : FnS E (N0 p) 204 f_container_heap_Pop := fnS [0, 2, 3] { hf := [284] } Tryz.func222 (by kernel_rfl) (by decide)
theorem o205 : FnS E (N0 p) 205 f_graph_least_Less := fnS [0, 1, 2, 6] { rs := [343] } Tryz.func403 (by kernel_rfl) (by decide)
theorem o206 : FnS E (N0 p) 206 f_graph_least_Pop := fnS [0, 2, 3, 4] { hs := [0], rs := [343] } Tryz.func404 (by kernel_rfl) (by decide)
theorem o207 : FnS E (N0 p) 207 f_graph_least_Push := fnS [0, 1] { hs := [0], rs := [343] } Tryz.func405 (by kernel_rfl) (by decide)
theorem o208 : FnS E (N0 p) 208 f_graph_least_Swap := fnS [0, 1, 2] { rs := [343], sr := true } Tryz.func406 (by kernel_rfl) (by decide)
theorem o210 : FnS E (N0 p) 210 f_expr_variable := fnS [0, 1, 2] {  } Tryz.func152 (by kernel_rfl) (by decide)
theorem o211 : FnS E (N0 p) 211 f_sim_begin := fnS [0, 1, 2, 3, 4, 5, 7, 8, 15, 17, 18, 19, 37] { hs := [4, 5, 15], hf := [97, 224, 287], lv := true } Tryz.func224 (by kernel_rfl) (by decide)
theorem o213 : FnS E (N0 p) 213 f_sim_frame_active := fnS [0, 1, 4, 6, 7, 8, 9] { hs := [0], hf := [57] } Tryz.func226 (by kernel_rfl) (by decide)
theorem o215 : FnS E (N0 p) 215 f_slices_Index_string := fnS [0, 1, 4, 5, 7, 8] { rs := [61] } Tryz.func228 (by kernel_rfl) (by decide)
theorem o217 : FnS E (N0 p) 217 f_starts_misused := fnSL [0, 1, 2, 3, 4, 8] { hs := [2, 4], hf := [73], lps := [(#[9], 345, [2, 4])] } [#[9]] Tryz.func230 (by kernel_rfl) (by decide) (by decide) ⟨⟨0, rfl, rfl⟩, trivial⟩
theorem o218 : FnS E (N0 p) 218 f_expr_each := fnS [0, 1, 2, 4, 6, 12, 13, 14] { hf := [118], hv := [7], bf := [118], bv := [7] } Tryz.func118 (by kernel_rfl) (by decide)
theorem o219 : FnS E (N0 p) 219 f_expr_of := fnS [0, 1, 2, 3, 4, 5, 18, 77] {  } Tryz.func231 (by kernel_rfl) (by decide)
theorem o220 : FnS E (N0 p) 220 f_lex_Ident := fnS [0, 2, 3, 22, 23] {  } Tryz.func232 (by kernel_rfl) (by decide)
theorem o223 : FnS E (N0 p) 223 f_scope_names_sees := fnS [0, 1, 4] { hs := [0] } Tryz.func240 (by kernel_rfl) (by decide)
theorem o224 : FnS E (N0 p) 224 f_scope_names_defined := fnS [0, 1, 4] { hs := [0] } Tryz.func241 (by kernel_rfl) (by decide)
theorem o225 : FnS E (N0 p) 225 f_scope_look_expression := fnSL [0, 1, 2, 3, 4, 5, 6, 7, 8, 9, 12] { hs := [0, 2, 5, 6, 7, 9], hf := [73], lps := [(#[13], 346, [5, 6, 7, 9])] } [#[13]] Tryz.func242 (by kernel_rfl) (by decide) (by decide) ⟨⟨0, rfl, rfl⟩, trivial⟩
theorem o252 : FnS E (N0 p) 252 f_modes_mapped_api_Expr := fnS [0, 1, 4, 5, 6, 7, 8, 9, 10] { hv := [16] } Tryz.func200 (by kernel_rfl) (by decide)
theorem o253 : FnS E (N0 p) 253 f_modes_exprs_1 := fnS [0, 1, 3, 4] {  } Tryz.func201 (by kernel_rfl) (by decide)
theorem o254 : FnS E (N0 p) 254 f_modes_mapped_api_Decl'' := fnS [0, 1, 4, 5, 6, 7, 8, 9, 10] { hv := [16] } Tryz.func202 (by kernel_rfl) (by decide)
theorem o255 : FnS E (N0 p) 255 f_modes_decls_1 := fnS [0, 1, 3, 4] {  } Tryz.func203 (by kernel_rfl) (by decide)
theorem o256 : FnS E (N0 p) 256 f_clocks_checker_find_1 := fnS [0, 1, 2, 3] {  } Tryz.func272 (by kernel_rfl) (by decide)
theorem o257 : FnS E (N0 p) 257 f_slices_Equal_api_On := fnS [0, 1, 4, 5, 12, 13] {  } Tryz.func273 (by kernel_rfl) (by decide)
theorem o259 : FnS E (N0 p) 259 f_expr_names := fnS [0, 1, 2, 4, 6, 7, 8, 24, 25, 26] { ox := [(274, some 0), (1000000, none)] } Tryz.func274 (by kernel_rfl) (by decide)
theorem o262 : FnS E (N0 p) 262 f_graph_valid_1 := fnS [0, 1, 3] {  } Tryz.func278 (by kernel_rfl) (by decide)
theorem o263 : FnS E (N0 p) 263 f_slices_ContainsFunc_int := fnS [0, 1, 4] { hf := [326] } Tryz.func279 (by kernel_rfl) (by decide)
theorem o266 : FnS E (N0 p) 266 f_slices_Compact_int := fnS [0, 2, 3, 4, 5] { rs := [38], kp := true } Tryz.func282 (by kernel_rfl) (by decide)
theorem o267 : FnS E (N0 p) 267 f_container_heap_up := fnS [0, 1, 4] {  } Tryz.func283 (by kernel_rfl) (by decide)
theorem o268 : FnS E (N0 p) 268 f_container_heap_down := fnS [0, 1, 2, 6, 7, 8, 9, 10] {  } Tryz.func284 (by kernel_rfl) (by decide)
theorem o271 : FnS E (N0 p) 271 f_sim_runner := fnS [0, 2, 3, 10] {  } Tryz.func287 (by kernel_rfl) (by decide)
theorem o274 : FnS E (N0 p) 274 f_sim_occurrence_args := fnS [0, 1, 2, 3, 8, 9, 11, 15, 16, 17] { hs := [0, 1, 11], hv := [25] } Tryz.func290 (by kernel_rfl) (by decide)
theorem o278 : FnS E (N0 p) 278 f_expr_operands := fnS [0, 2] {  } Tryz.func294 (by kernel_rfl) (by decide)
theorem o280 : FnS E (N0 p) 280 f_lex_letter := fnS [0, 2] {  } Tryz.func296 (by kernel_rfl) (by decide)
theorem o281 : FnS E (N0 p) 281 f_lex_Keyword := fnS [0, 2, 3, 4] {  } Tryz.func297 (by kernel_rfl) (by decide)
theorem o282 : FnS E (N0 p) 282 f_lex_inner := fnS [0, 2] {  } Tryz.func298 (by kernel_rfl) (by decide)
theorem o301 : FnS E (N0 p) 301 f_slices_IndexFunc_int := fnS [0, 1, 4, 5, 7, 8] { hv := [11] } Tryz.func326 (by kernel_rfl) (by decide)
theorem o302 : FnS E (N0 p) 302 f_sim_constant := fnS [0, 1, 2, 3, 8] { hs := [0, 1] } Tryz.func328 (by kernel_rfl) (by decide)
theorem o303 : FnS E (N0 p) 303 f_sim_variable := fnS [0, 1, 2, 3, 8] { hs := [0, 1], hf := [57] } Tryz.func329 (by kernel_rfl) (by decide)
theorem o304 : FnS E (N0 p) 304 f_sim_conditional := fnS [0, 1, 2, 3, 8, 9] { hs := [0, 1], hf := [290] } Tryz.func330 (by kernel_rfl) (by decide)
theorem o311 : FnS E (N0 p) 311 f_sim_operation := fnS [0, 1, 2, 3, 8] { hs := [0, 1], hf := [290], lv := true } Tryz.func337 (by kernel_rfl) (by decide)
theorem o312 : FnS E (N0 p) 312 f_lex_digit := fnS [0, 2] {  } Tryz.func338 (by kernel_rfl) (by decide)
theorem o318 : FnS E (N0 p) 318 f_sim_only := fnS [0, 1, 3, 4] {  } Tryz.func356 (by kernel_rfl) (by decide)
theorem o320 : FnS E (N0 p) 320 f_value_Lift := fnS [0, 1, 4, 5, 6, 8, 9, 10, 11, 12, 13] {  } Tryz.func358 (by kernel_rfl) (by decide)
theorem o324 : FnS E (N0 p) 324 f_value_Apply := fnS [0, 1, 4, 5, 6, 7, 9, 10, 11, 25, 26, 27] {  } Tryz.func366 (by kernel_rfl) (by decide)
theorem o329 : FnS E (N0 p) 329 f_value_truth := fnS [0, 2] {  } Tryz.func373 (by kernel_rfl) (by decide)
theorem o330 : FnS E (N0 p) 330 f_value_holds := fnS [0, 1, 2, 6, 7, 33] {  } Tryz.func374 (by kernel_rfl) (by decide)
theorem o340 : FnS E (N0 p) 340 f_shape_Expr_0 := rdS [2, 4] [2, 4, 15, 6, 7] { hs := [2, 4] } 0 #[15] rfl Tryz.func65 (by kernel_rfl) (by kernel_rfl) (by decide)
theorem o341 : FnS E (N0 p) 341 f_scope_known_1_0 := rdS [1] [1, 6, 3, 8, 12] { hs := [1] } 0 #[6] rfl Tryz.func72 (by kernel_rfl) (by kernel_rfl) (by decide)
theorem o342 : FnS E (N0 p) 342 f_expr_Check_0 := rdS [2] [2, 15, 3, 4] { hs := [2] } 0 #[15] rfl Tryz.func107 (by kernel_rfl) (by kernel_rfl) (by decide)
theorem o343 : FnS E (N0 p) 343 f_modes_adder_exprs_0 := rdS [2] [2, 15, 6] { hs := [2], hf := [125] } 0 #[15] rfl Tryz.func128 (by kernel_rfl) (by kernel_rfl) (by decide)
theorem o344 : FnS E (N0 p) 344 f_expr_Size_0 := rdS [3] [3, 6] { hs := [3] } 0 #[6] rfl Tryz.func165 (by kernel_rfl) (by kernel_rfl) (by decide)
theorem o345 : FnS E (N0 p) 345 f_starts_misused_0 := rdS [2, 4] [2, 4, 9, 5, 6, 11, 12] { hs := [2, 4], hf := [40, 67] } 0 #[9] rfl Tryz.func230 (by kernel_rfl) (by kernel_rfl) (by decide)
theorem o346 : FnS E (N0 p) 346 f_scope_look_expression_0 := rdS [5, 6, 7, 9] [5, 6, 7, 9, 13, 10, 15, 16] { hs := [5, 6, 7, 9], hf := [177, 240, 305], bf := [177, 305], rf := [240] } 0 #[13] rfl Tryz.func242 (by kernel_rfl) (by kernel_rfl) (by decide)
theorem libOk (h40 : PrimOK (N0 p) Tryz.prog 40 pItoa) (h197 : PrimOK (N0 p) Tryz.prog 197 (pSortPairs 198)) (h265 : PrimOK (N0 p) Tryz.prog 265 pSortInts) (h112 : DfrOK (N0 p) Tryz.prog 112 (pRec 1)) (h123 : DfrOK (N0 p) Tryz.prog 123 (pRec 2)) : ∀ k pf, LC k = some pf → FnS E (N0 p) k pf := by
 have all : AllFn E (N0 p) 0 LCt := ⟨o0, o1, o2, o3, o4, o5, o6, o7, o8, o9, o10, o11, o12, o13, o14, o15, o16, o17, o18, o19, o20, o21, o22, o23, o24, o25, o26, o27, o28, o29, o30, o31, o32, o33, o34, o35, o36, o37, o38, o39, .inl ⟨rfl, rfl, by decide, .inr (.inl ⟨_, Tryz.f43, rfl, rfl, Tryz.func43, by decide, by kernel_rfl, h40⟩)⟩, o41, o44, o45, o46, o47, o48, o49, o50, o51, o52, o53, o54, o55, o56, o57, o58, o59, o60, o61, o62, o63, o64, o65, o66, o67, o68, o69, o70, o71, o72, o73, o75, o77, o78, o79, o80, o81, o82, o83, o84, o85, o86, o87, o88, o89, o90, o91, o92, o93, o94, o95, o96, o97, o98, o100, o101, o102, o103, o104, o105, o106, o110, o111, .inl ⟨rfl, rfl, by decide, .inr (.inr ⟨_, Tryz.f120, rfl, rfl, rfl, Tryz.func120, by decide, by kernel_rfl, h112⟩)⟩, o113, o114, o117, o118, o119, o120, .inl ⟨rfl, rfl, by decide, .inr (.inr ⟨_, Tryz.f131, rfl, rfl, rfl, Tryz.func131, by decide, by kernel_rfl, h123⟩)⟩, o124, o126, o127, o129, o130, o131, o132, o133, o134, o135, o136, o137, o140, o142, o143, o144, o145, o147, o148, o150, o152, o153, o154, o155, o156, o157, o158, o159, o161, o162, o163, o164, o165, o166, o168, o180, o181, o182, o184, o185, o186, o187, o188, o189, o190, o191, o192, o195, o196, .inl ⟨rfl, rfl, by decide, .inr (.inl ⟨_, Tryz.f213, rfl, rfl, Tryz.func213, by decide, by kernel_rfl, h197⟩)⟩, o199, o200, o201, o202, o203, o204, o205, o206, o207, o208, o210, o211, o213, o215, o217, o218, o219, o220, o223, o224, o225, o252, o253, o254, o255, o256, o257, o259, o262, o263, .inl ⟨rfl, rfl, by decide, .inr (.inl ⟨_, Tryz.f281, rfl, rfl, Tryz.func281, by decide, by kernel_rfl, h265⟩)⟩, o266, o267, o268, o271, o274, o278, o280, o281, o282, o301, o302, o303, o304, o311, o312, o318, o320, o324, o329, o330, o340, o341, o342, o343, o344, o345, o346, trivial⟩
 intro k pf h
 have := all.get (k := k) (f := pf) h
 rwa [Nat.zero_add] at this
end
end Go.Proofs.YtaejhojielbbdaaGreatDoor.Pi
