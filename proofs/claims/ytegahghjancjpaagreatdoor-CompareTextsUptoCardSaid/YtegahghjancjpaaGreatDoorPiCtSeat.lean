import Derived.Test.YtegahghjancjpaaGreatDoorChecked
import Derived.Test.YtegahghjancjpaaGreatDoorPiLaw
import Derived.Test.YtegahghjancjpaaGreatDoorPiCtCode
import Derived.KernelRfl
set_option maxRecDepth 100000
namespace Go.Proofs.YtegahghjancjpaaGreatDoor.Pi
open Go PI
def tab : List Nat := [1000000, 1000000, 1000000, 6, 1000000, 7, 8, 10, 12, 14, 44, 22, 1000000, 23, 1000000, 24, 1000000, 1000000, 21, 25, 26, 27, 30, 31, 35, 36, 39, 40, 41, 42, 43, 1000000, 75, 66, 28, 29, 69, 73, 74, 76, 77, 78, 114, 115, 116, 105, 106, 107, 109, 110, 111, 112, 113, 117, 118, 139, 140, 136, 138, 141, 143, 144, 162, 3, 4, 9, 11, 13, 32, 33, 34, 37, 38, 45, 46, 47, 48, 70, 71, 72, 79, 108, 119, 1000000, 1000000, 1000000, 1000000, 1000000, 1000000, 1000000, 1000000, 1000000, 1000000, 1000000, 1000000, 1000000, 1000000, 1000000, 1000000, 1000000, 1000000, 1000000, 1000000, 1000000, 1000000, 1000000, 1000000, 1000000, 1000000, 1000000, 1000000, 1000000, 1000000, 1000000, 1000000, 1000000, 1000000, 1000000, 1000000, 1000000, 1000000, 1000000, 1000000, 1000000, 1000000, 1000000, 1000000, 1000000, 1000000, 1000000, 1000000, 1000000, 1000000, 1000000, 1000000, 1000000, 1000000, 1000000, 1000000, 1000000, 1000000, 1000000, 1000000, 1000000, 1000000, 1000000, 1000000, 1000000, 1000000, 1000000, 1000000, 1000000, 1000000, 1000000, 1000000, 1000000, 1000000, 1000000, 1000000, 1000000, 1000000, 1000000, 1000000, 1000000, 1000000, 1000000, 1000000, 1000000, 1000000, 1000000, 1000000, 1000000, 1000000, 1000000, 1000000, 1000000, 1000000, 1000000, 1000000, 1000000, 1000000, 1000000, 1000000, 1000000, 1000000, 1000000, 1000000, 1000000, 1000000, 1000000, 1000000, 1000000, 1000000, 1000000, 1000000, 1000000, 1000000, 1000000, 1000000, 1000000, 1000000, 1000000, 1000000, 1000000, 15, 17, 20, 1000000, 1000000, 82, 1000000, 53, 1000000, 19, 1000000, 55, 1000000, 56, 1000000, 1000000, 16, 54, 64, 65, 1000000, 61, 120, 1000000, 1000000, 63, 1000000, 62, 83, 1000000, 49, 50, 51, 52, 97, 98, 99, 100, 101, 102, 1000000, 147, 96, 80, 81, 1000000, 1000000, 1000000, 1000000, 1000000, 1000000, 1000000, 1000000, 1000000, 1000000, 1000000, 1000000, 1000000, 1000000, 1000000, 1000000, 1000000, 1000000, 1000000, 1000000, 1000000, 1000000, 1000000, 1000000, 1000000, 1000000, 1000000, 1000000, 1000000, 1000000, 1000000, 1000000, 1000000, 1000000, 1000000, 1000000, 1000000, 1000000, 1000000, 1000000, 1000000, 1000000, 1000000, 1000000, 1000000, 1000000, 1000000, 1000000, 1000000, 1000000, 1000000, 5, 18, 57, 58, 59, 84, 85, 86, 88, 121]
noncomputable def E : Env := { P := Tryz.prog, inv := fun f => idxIn f tab 0, tinv := fun _ => none, bT := (some 69), pt := [112, 154] }
def N0 (tabs : List (Nat × Nat × Value)) (rows : List (Nat × TypeId × Nat)) (errT : Nat) : Nm := { fn := fun k => tab.getD k 0, ty := fun t => if t = 0 then errT else ([112, 154] : List Nat).getD (t - 1) 0, tabs := tabs, rows := rows, bT := 69, bE := 5 }
theorem envOk (tabs : List (Nat × Nat × Value)) (rows : List (Nat × TypeId × Nat)) (errT : Nat) : EnvOk E (N0 tabs rows errT) := ⟨fun f k h => by
  obtain ⟨_, h2⟩ := idxIn_some (show idxIn f tab 0 = some k from h)
  show tab.getD k 0 = f
  rw [List.getD_eq_getElem?_getD, show tab[k]? = some f by simpa using h2]; rfl, fun _ _ _ => rfl, fun T i h => by
  obtain ⟨_, h2⟩ := idxIn_some (show idxIn T [112, 154] 0 = some i from h)
  show (if i + 1 = 0 then errT else ([112, 154] : List Nat).getD (i + 1 - 1) 0) = T
  rw [if_neg (by omega), List.getD_eq_getElem?_getD, show ([112, 154] : List Nat)[i + 1 - 1]? = some T by simpa using h2]; rfl, fun t h => by
  have : t = 69 := by simpa [E] using h.symm
  subst this
  exact ⟨rfl, by
    have h : ((Tryz.prog.info? 69).bind fun i => i.zero) = some (.agg #[.pointer none, .slice none 0 0]) := by kernel_rfl
    simp only [Option.bind_eq_some_iff] at h
    exact h⟩⟩
theorem mixed : Tryz.prog.follows .mixedOrders = true := by kernel_rfl
theorem c3 : (Tryz.f6.body.map fun c => compC (E.opt ⟨[], [], [], [], [], [], [], false⟩) Tryz.f6.ntmps [0, 1, 2, 3, 4] c) = some PI.Tr.f_law43_light.code := by kernel_rfl
theorem o3 (tabs : List (Nat × Nat × Value)) (rows : List (Nat × TypeId × Nat)) (errT : Nat) : FnS E (N0 tabs rows errT) 3 PI.Tr.f_law43_light := ⟨rfl, rfl, .inl ⟨rfl, rfl, Tryz.f6, [0, 1, 2, 3, 4], Tryz.func6, by decide, by decide, by decide, rfl, by decide, by decide, ⟨_, c3, .inl rfl⟩, by kernel_rfl⟩⟩
theorem c5 : (Tryz.f7.body.map fun c => compC (E.opt ⟨[], [], [], [], [], [], [], false⟩) Tryz.f7.ntmps [0, 1, 2, 3, 4, 5, 6, 7, 8, 9, 10, 11, 12] c) = some PI.Tr.f_law43_awake.code := by kernel_rfl
theorem o5 (tabs : List (Nat × Nat × Value)) (rows : List (Nat × TypeId × Nat)) (errT : Nat) : FnS E (N0 tabs rows errT) 5 PI.Tr.f_law43_awake := ⟨rfl, rfl, .inl ⟨rfl, rfl, Tryz.f7, [0, 1, 2, 3, 4, 5, 6, 7, 8, 9, 10, 11, 12], Tryz.func7, by decide, by decide, by decide, rfl, by decide, by decide, ⟨_, c5, .inl rfl⟩, by kernel_rfl⟩⟩
theorem c6 : (Tryz.f8.body.map fun c => compC (E.opt ⟨[13], [31], [51, 54, 84], [], [], [], [], false⟩) Tryz.f8.ntmps [0, 1, 3, 4, 5, 6, 7, 8, 10, 11, 13, 14, 16, 17, 18, 19, 27, 28, 29, 58, 59, 60, 64, 65, 66] c) = some PI.Tr.f_trace_Text.code := by kernel_rfl
theorem o6 (tabs : List (Nat × Nat × Value)) (rows : List (Nat × TypeId × Nat)) (errT : Nat) : FnS E (N0 tabs rows errT) 6 PI.Tr.f_trace_Text := ⟨rfl, rfl, .inl ⟨rfl, rfl, Tryz.f8, [0, 1, 3, 4, 5, 6, 7, 8, 10, 11, 13, 14, 16, 17, 18, 19, 27, 28, 29, 58, 59, 60, 64, 65, 66], Tryz.func8, by decide, by decide, by decide, rfl, by decide, by decide, ⟨_, c6, .inl rfl⟩, by kernel_rfl⟩⟩
theorem c7 : (Tryz.f10.body.map fun c => compC (E.opt ⟨[], [], [], [], [], [], [], false⟩) Tryz.f10.ntmps [0, 1, 3, 4, 5, 7, 8, 9, 10, 29, 30, 31, 41, 42, 43] c) = some PI.Tr.f_trace_Check.code := by kernel_rfl
theorem o7 (tabs : List (Nat × Nat × Value)) (rows : List (Nat × TypeId × Nat)) (errT : Nat) : FnS E (N0 tabs rows errT) 7 PI.Tr.f_trace_Check := ⟨rfl, rfl, .inl ⟨rfl, rfl, Tryz.f10, [0, 1, 3, 4, 5, 7, 8, 9, 10, 29, 30, 31, 41, 42, 43], Tryz.func10, by decide, by decide, by decide, rfl, by decide, by decide, ⟨_, c7, .inl rfl⟩, by kernel_rfl⟩⟩
theorem c8 : (Tryz.f12.body.map fun c => compC (E.opt ⟨[7, 16], [41, 42, 43], [], [23], [], [], [], false⟩) Tryz.f12.ntmps [0, 1, 4, 5, 6, 7, 8, 9, 10, 11, 12, 13, 16, 42] c) = some PI.Tr.f_trace_Parse.code := by kernel_rfl
theorem o8 (tabs : List (Nat × Nat × Value)) (rows : List (Nat × TypeId × Nat)) (errT : Nat) : FnS E (N0 tabs rows errT) 8 PI.Tr.f_trace_Parse := ⟨rfl, rfl, .inl ⟨rfl, rfl, Tryz.f12, [0, 1, 4, 5, 6, 7, 8, 9, 10, 11, 12, 13, 16, 42], Tryz.func12, by decide, by decide, by decide, rfl, by decide, by decide, ⟨_, c8, .inl rfl⟩, by kernel_rfl⟩⟩
theorem c9 : (Tryz.f14.body.map fun c => compC (E.opt ⟨[], [], [], [], [], [], [], false⟩) Tryz.f14.ntmps [0, 1, 2, 3, 4, 5, 6, 7, 8] c) = some PI.Tr.f_ref43_Same.code := by kernel_rfl
theorem o9 (tabs : List (Nat × Nat × Value)) (rows : List (Nat × TypeId × Nat)) (errT : Nat) : FnS E (N0 tabs rows errT) 9 PI.Tr.f_ref43_Same := ⟨rfl, rfl, .inl ⟨rfl, rfl, Tryz.f14, [0, 1, 2, 3, 4, 5, 6, 7, 8], Tryz.func14, by decide, by decide, by decide, rfl, by decide, by decide, ⟨_, c9, .inl rfl⟩, by kernel_rfl⟩⟩
theorem c10 : (Tryz.f44.body.map fun c => compC (E.opt ⟨[], [], [], [], [], [], [], false⟩) Tryz.f44.ntmps [0, 2, 3, 4, 5] c) = some PI.Tr.f_ref36_Lines.code := by kernel_rfl
theorem o10 (tabs : List (Nat × Nat × Value)) (rows : List (Nat × TypeId × Nat)) (errT : Nat) : FnS E (N0 tabs rows errT) 10 PI.Tr.f_ref36_Lines := ⟨rfl, rfl, .inl ⟨rfl, rfl, Tryz.f44, [0, 2, 3, 4, 5], Tryz.func44, by decide, by decide, by decide, rfl, by decide, by decide, ⟨_, c10, .inl rfl⟩, by kernel_rfl⟩⟩
theorem c11 : (Tryz.f22.body.map fun c => compC (E.opt ⟨[], [], [], [], [], [], [], false⟩) Tryz.f22.ntmps [0, 1, 2, 4, 5, 6, 7, 8, 10, 11, 13, 14, 15, 25, 26, 27] c) = some PI.Tr.f_trace_Col.code := by kernel_rfl
theorem o11 (tabs : List (Nat × Nat × Value)) (rows : List (Nat × TypeId × Nat)) (errT : Nat) : FnS E (N0 tabs rows errT) 11 PI.Tr.f_trace_Col := ⟨rfl, rfl, .inl ⟨rfl, rfl, Tryz.f22, [0, 1, 2, 4, 5, 6, 7, 8, 10, 11, 13, 14, 15, 25, 26, 27], Tryz.func22, by decide, by decide, by decide, rfl, by decide, by decide, ⟨_, c11, .inl rfl⟩, by kernel_rfl⟩⟩
theorem c13 : (Tryz.f23.body.map fun c => compC (E.opt ⟨[11], [], [], [], [], [], [], false⟩) Tryz.f23.ntmps [0, 1, 2, 4, 5, 6, 8, 9, 10, 11, 13, 14, 15, 16, 17, 18, 39, 40, 41, 45, 46, 47] c) = some PI.Tr.f_trace_Rows.code := by kernel_rfl
theorem o13 (tabs : List (Nat × Nat × Value)) (rows : List (Nat × TypeId × Nat)) (errT : Nat) : FnS E (N0 tabs rows errT) 13 PI.Tr.f_trace_Rows := ⟨rfl, rfl, .inl ⟨rfl, rfl, Tryz.f23, [0, 1, 2, 4, 5, 6, 8, 9, 10, 11, 13, 14, 15, 16, 17, 18, 39, 40, 41, 45, 46, 47], Tryz.func23, by decide, by decide, by decide, rfl, by decide, by decide, ⟨_, c13, .inl rfl⟩, by kernel_rfl⟩⟩
theorem c15 : (Tryz.f24.body.map fun c => compC (E.opt ⟨[], [], [], [], [], [], [], false⟩) Tryz.f24.ntmps [0, 1, 4, 5] c) = some PI.Tr.f_law43_cells.code := by kernel_rfl
theorem o15 (tabs : List (Nat × Nat × Value)) (rows : List (Nat × TypeId × Nat)) (errT : Nat) : FnS E (N0 tabs rows errT) 15 PI.Tr.f_law43_cells := ⟨rfl, rfl, .inl ⟨rfl, rfl, Tryz.f24, [0, 1, 4, 5], Tryz.func24, by decide, by decide, by decide, rfl, by decide, by decide, ⟨_, c15, .inl rfl⟩, by kernel_rfl⟩⟩
theorem c18 : (Tryz.f21.body.map fun c => compC (E.opt ⟨[], [], [], [], [], [], [], false⟩) Tryz.f21.ntmps [0, 1] c) = some PI.Tr.f_law43_sample.code := by kernel_rfl
theorem o18 (tabs : List (Nat × Nat × Value)) (rows : List (Nat × TypeId × Nat)) (errT : Nat) : FnS E (N0 tabs rows errT) 18 PI.Tr.f_law43_sample := ⟨rfl, rfl, .inl ⟨rfl, rfl, Tryz.f21, [0, 1], Tryz.func21, by decide, by decide, by decide, rfl, by decide, by decide, ⟨_, c18, .inl rfl⟩, by kernel_rfl⟩⟩
theorem c19 : (Tryz.f25.body.map fun c => compC (E.opt ⟨[], [], [], [], [], [], [], false⟩) Tryz.f25.ntmps [0, 1, 4, 5] c) = some PI.Tr.f_ref04_Same.code := by kernel_rfl
theorem o19 (tabs : List (Nat × Nat × Value)) (rows : List (Nat × TypeId × Nat)) (errT : Nat) : FnS E (N0 tabs rows errT) 19 PI.Tr.f_ref04_Same := ⟨rfl, rfl, .inl ⟨rfl, rfl, Tryz.f25, [0, 1, 4, 5], Tryz.func25, by decide, by decide, by decide, rfl, by decide, by decide, ⟨_, c19, .inl rfl⟩, by kernel_rfl⟩⟩
theorem c20 : (Tryz.f26.body.map fun c => compC (E.opt ⟨[], [], [], [], [], [], [], false⟩) Tryz.f26.ntmps [0, 1, 4, 5, 6, 7, 8] c) = some PI.Tr.f_value_Name.code := by kernel_rfl
theorem o20 (tabs : List (Nat × Nat × Value)) (rows : List (Nat × TypeId × Nat)) (errT : Nat) : FnS E (N0 tabs rows errT) 20 PI.Tr.f_value_Name := ⟨rfl, rfl, .inl ⟨rfl, rfl, Tryz.f26, [0, 1, 4, 5, 6, 7, 8], Tryz.func26, by decide, by decide, by decide, rfl, by decide, by decide, ⟨_, c20, .inl rfl⟩, by kernel_rfl⟩⟩
theorem c21 : (Tryz.f27.body.map fun c => compC (E.opt ⟨[1], [28], [], [], [], [], [], false⟩) Tryz.f27.ntmps [0, 1] c) = some PI.Tr.f_trace_Text_1.code := by kernel_rfl
theorem o21 (tabs : List (Nat × Nat × Value)) (rows : List (Nat × TypeId × Nat)) (errT : Nat) : FnS E (N0 tabs rows errT) 21 PI.Tr.f_trace_Text_1 := ⟨rfl, rfl, .inl ⟨rfl, rfl, Tryz.f27, [0, 1], Tryz.func27, by decide, by decide, by decide, rfl, by decide, by decide, ⟨_, c21, .inl rfl⟩, by kernel_rfl⟩⟩
theorem c22 : (Tryz.f30.body.map fun c => compC (E.opt ⟨[], [], [], [], [], [], [], false⟩) Tryz.f30.ntmps [0, 1, 2, 5, 6, 7, 10] c) = some PI.Tr.f_trace_word.code := by kernel_rfl
theorem o22 (tabs : List (Nat × Nat × Value)) (rows : List (Nat × TypeId × Nat)) (errT : Nat) : FnS E (N0 tabs rows errT) 22 PI.Tr.f_trace_word := ⟨rfl, rfl, .inl ⟨rfl, rfl, Tryz.f30, [0, 1, 2, 5, 6, 7, 10], Tryz.func30, by decide, by decide, by decide, rfl, by decide, by decide, ⟨_, c22, .inl rfl⟩, by kernel_rfl⟩⟩
theorem c24 : (Tryz.f35.body.map fun c => compC (E.opt ⟨[], [], [], [], [], [], [], false⟩) Tryz.f35.ntmps [0, 1, 4, 5, 7, 9, 11, 12, 13] c) = some PI.Tr.f_trace_columns.code := by kernel_rfl
theorem o24 (tabs : List (Nat × Nat × Value)) (rows : List (Nat × TypeId × Nat)) (errT : Nat) : FnS E (N0 tabs rows errT) 24 PI.Tr.f_trace_columns := ⟨rfl, rfl, .inl ⟨rfl, rfl, Tryz.f35, [0, 1, 4, 5, 7, 9, 11, 12, 13], Tryz.func35, by decide, by decide, by decide, rfl, by decide, by decide, ⟨_, c24, .inl rfl⟩, by kernel_rfl⟩⟩
theorem c25 : (Tryz.f36.body.map fun c => compC (E.opt ⟨[], [], [], [], [], [], [], false⟩) Tryz.f36.ntmps [0, 1, 2, 5, 6, 7] c) = some PI.Tr.f_trace_cell.code := by kernel_rfl
theorem o25 (tabs : List (Nat × Nat × Value)) (rows : List (Nat × TypeId × Nat)) (errT : Nat) : FnS E (N0 tabs rows errT) 25 PI.Tr.f_trace_cell := ⟨rfl, rfl, .inl ⟨rfl, rfl, Tryz.f36, [0, 1, 2, 5, 6, 7], Tryz.func36, by decide, by decide, by decide, rfl, by decide, by decide, ⟨_, c25, .inl rfl⟩, by kernel_rfl⟩⟩
theorem c26 : (Tryz.f39.body.map fun c => compC (E.opt ⟨[], [], [], [], [], [], [], false⟩) Tryz.f39.ntmps [0, 1, 4, 5, 6] c) = some PI.Tr.f_strings_Cut.code := by kernel_rfl
theorem o26 (tabs : List (Nat × Nat × Value)) (rows : List (Nat × TypeId × Nat)) (errT : Nat) : FnS E (N0 tabs rows errT) 26 PI.Tr.f_strings_Cut := ⟨rfl, rfl, .inl ⟨rfl, rfl, Tryz.f39, [0, 1, 4, 5, 6], Tryz.func39, by decide, by decide, by decide, rfl, by decide, by decide, ⟨_, c26, .inl rfl⟩, by kernel_rfl⟩⟩
theorem c27 : (Tryz.f40.body.map fun c => compC (E.opt ⟨[], [], [], [], [], [], [], false⟩) Tryz.f40.ntmps [0, 2, 3, 4, 5, 6, 10, 11] c) = some PI.Tr.f_trace_words.code := by kernel_rfl
theorem o27 (tabs : List (Nat × Nat × Value)) (rows : List (Nat × TypeId × Nat)) (errT : Nat) : FnS E (N0 tabs rows errT) 27 PI.Tr.f_trace_words := ⟨rfl, rfl, .inl ⟨rfl, rfl, Tryz.f40, [0, 2, 3, 4, 5, 6, 10, 11], Tryz.func40, by decide, by decide, by decide, rfl, by decide, by decide, ⟨_, c27, .inl rfl⟩, by kernel_rfl⟩⟩
theorem c28 : (Tryz.f41.body.map fun c => compC (E.opt ⟨[0], [], [], [23], [], [], [], false⟩) Tryz.f41.ntmps [0, 1, 4, 5, 7, 12, 13, 14] c) = some PI.Tr.f_trace_parser_names.code := by kernel_rfl
theorem o28 (tabs : List (Nat × Nat × Value)) (rows : List (Nat × TypeId × Nat)) (errT : Nat) : FnS E (N0 tabs rows errT) 28 PI.Tr.f_trace_parser_names := ⟨rfl, rfl, .inl ⟨rfl, rfl, Tryz.f41, [0, 1, 4, 5, 7, 12, 13, 14], Tryz.func41, by decide, by decide, by decide, rfl, by decide, by decide, ⟨_, c28, .inl rfl⟩, by kernel_rfl⟩⟩
theorem c29 : (Tryz.f42.body.map fun c => compC (E.opt ⟨[0], [], [], [23], [], [], [], false⟩) Tryz.f42.ntmps [0, 1, 4, 5, 6, 7, 8, 18, 19, 20] c) = some PI.Tr.f_trace_parser_types.code := by kernel_rfl
theorem o29 (tabs : List (Nat × Nat × Value)) (rows : List (Nat × TypeId × Nat)) (errT : Nat) : FnS E (N0 tabs rows errT) 29 PI.Tr.f_trace_parser_types := ⟨rfl, rfl, .inl ⟨rfl, rfl, Tryz.f42, [0, 1, 4, 5, 6, 7, 8, 18, 19, 20], Tryz.func42, by decide, by decide, by decide, rfl, by decide, by decide, ⟨_, c29, .inl rfl⟩, by kernel_rfl⟩⟩
theorem c30 : (Tryz.f43.body.map fun c => compC (E.opt ⟨[0], [], [], [23], [], [], [], false⟩) Tryz.f43.ntmps [0, 1, 4, 5, 6, 7, 8, 9, 10, 27, 28, 29, 35] c) = some PI.Tr.f_trace_parser_row.code := by kernel_rfl
theorem o30 (tabs : List (Nat × Nat × Value)) (rows : List (Nat × TypeId × Nat)) (errT : Nat) : FnS E (N0 tabs rows errT) 30 PI.Tr.f_trace_parser_row := ⟨rfl, rfl, .inl ⟨rfl, rfl, Tryz.f43, [0, 1, 4, 5, 6, 7, 8, 9, 10, 27, 28, 29, 35], Tryz.func43, by decide, by decide, by decide, rfl, by decide, by decide, ⟨_, c30, .inl rfl⟩, by kernel_rfl⟩⟩
theorem c32 : (Tryz.f75.body.map fun c => compC (E.opt ⟨[], [], [], [], [], [], [], false⟩) Tryz.f75.ntmps [0, 2, 3] c) = some PI.Tr.f_ref03_Ident.code := by kernel_rfl
theorem o32 (tabs : List (Nat × Nat × Value)) (rows : List (Nat × TypeId × Nat)) (errT : Nat) : FnS E (N0 tabs rows errT) 32 PI.Tr.f_ref03_Ident := ⟨rfl, rfl, .inl ⟨rfl, rfl, Tryz.f75, [0, 2, 3], Tryz.func75, by decide, by decide, by decide, rfl, by decide, by decide, ⟨_, c32, .inl rfl⟩, by kernel_rfl⟩⟩
theorem c33 : (Tryz.f66.body.map fun c => compC (E.opt ⟨[], [], [], [], [], [], [], false⟩) Tryz.f66.ntmps [0, 1, 4, 5] c) = some PI.Tr.f_value_enum.code := by kernel_rfl
theorem o33 (tabs : List (Nat × Nat × Value)) (rows : List (Nat × TypeId × Nat)) (errT : Nat) : FnS E (N0 tabs rows errT) 33 PI.Tr.f_value_enum := ⟨rfl, rfl, .inl ⟨rfl, rfl, Tryz.f66, [0, 1, 4, 5], Tryz.func66, by decide, by decide, by decide, rfl, by decide, by decide, ⟨_, c33, .inl rfl⟩, by kernel_rfl⟩⟩
theorem c36 : (Tryz.f69.body.map fun c => compC (E.opt ⟨[], [], [], [], [], [], [], false⟩) Tryz.f69.ntmps [0, 1, 2, 6, 7] c) = some PI.Tr.f_value_Text.code := by kernel_rfl
theorem o36 (tabs : List (Nat × Nat × Value)) (rows : List (Nat × TypeId × Nat)) (errT : Nat) : FnS E (N0 tabs rows errT) 36 PI.Tr.f_value_Text := ⟨rfl, rfl, .inl ⟨rfl, rfl, Tryz.f69, [0, 1, 2, 6, 7], Tryz.func69, by decide, by decide, by decide, rfl, by decide, by decide, ⟨_, c36, .inl rfl⟩, by kernel_rfl⟩⟩
theorem c37 : (Tryz.f73.body.map fun c => compC (E.opt ⟨[], [], [], [], [], [], [], false⟩) Tryz.f73.ntmps [0, 2, 3, 22, 23] c) = some PI.Tr.f_lex_Ident.code := by kernel_rfl
theorem o37 (tabs : List (Nat × Nat × Value)) (rows : List (Nat × TypeId × Nat)) (errT : Nat) : FnS E (N0 tabs rows errT) 37 PI.Tr.f_lex_Ident := ⟨rfl, rfl, .inl ⟨rfl, rfl, Tryz.f73, [0, 2, 3, 22, 23], Tryz.func73, by decide, by decide, by decide, rfl, by decide, by decide, ⟨_, c37, .inl rfl⟩, by kernel_rfl⟩⟩
theorem c38 : (Tryz.f74.body.map fun c => compC (E.opt ⟨[], [], [], [], [], [], [], false⟩) Tryz.f74.ntmps [0, 1, 2, 6] c) = some PI.Tr.f_value_Has.code := by kernel_rfl
theorem o38 (tabs : List (Nat × Nat × Value)) (rows : List (Nat × TypeId × Nat)) (errT : Nat) : FnS E (N0 tabs rows errT) 38 PI.Tr.f_value_Has := ⟨rfl, rfl, .inl ⟨rfl, rfl, Tryz.f74, [0, 1, 2, 6], Tryz.func74, by decide, by decide, by decide, rfl, by decide, by decide, ⟨_, c38, .inl rfl⟩, by kernel_rfl⟩⟩
theorem c39 : (Tryz.f76.body.map fun c => compC (E.opt ⟨[], [], [], [], [], [], [], false⟩) Tryz.f76.ntmps [0, 1, 4, 5, 6, 7] c) = some PI.Tr.f_internal_stringslite_Cut.code := by kernel_rfl
theorem o39 (tabs : List (Nat × Nat × Value)) (rows : List (Nat × TypeId × Nat)) (errT : Nat) : FnS E (N0 tabs rows errT) 39 PI.Tr.f_internal_stringslite_Cut := ⟨rfl, rfl, .inl ⟨rfl, rfl, Tryz.f76, [0, 1, 4, 5, 6, 7], Tryz.func76, by decide, by decide, by decide, rfl, by decide, by decide, ⟨_, c39, .inl rfl⟩, by kernel_rfl⟩⟩
theorem c40 : (Tryz.f77.body.map fun c => compC (E.opt ⟨[], [], [], [], [], [], [], false⟩) Tryz.f77.ntmps [0, 1, 4, 5, 6, 7, 8, 13, 14, 15] c) = some PI.Tr.f_value_Type.code := by kernel_rfl
theorem o40 (tabs : List (Nat × Nat × Value)) (rows : List (Nat × TypeId × Nat)) (errT : Nat) : FnS E (N0 tabs rows errT) 40 PI.Tr.f_value_Type := ⟨rfl, rfl, .inl ⟨rfl, rfl, Tryz.f77, [0, 1, 4, 5, 6, 7, 8, 13, 14, 15], Tryz.func77, by decide, by decide, by decide, rfl, by decide, by decide, ⟨_, c40, .inl rfl⟩, by kernel_rfl⟩⟩
theorem c41 : (Tryz.f78.body.map fun c => compC (E.opt ⟨[], [118], [], [], [], [], [], false⟩) Tryz.f78.ntmps [0, 1, 2, 6, 7, 8, 9, 10, 11, 12, 42, 43] c) = some PI.Tr.f_value_Parse.code := by kernel_rfl
theorem o41 (tabs : List (Nat × Nat × Value)) (rows : List (Nat × TypeId × Nat)) (errT : Nat) : FnS E (N0 tabs rows errT) 41 PI.Tr.f_value_Parse := ⟨rfl, rfl, .inl ⟨rfl, rfl, Tryz.f78, [0, 1, 2, 6, 7, 8, 9, 10, 11, 12, 42, 43], Tryz.func78, by decide, by decide, by decide, rfl, by decide, by decide, ⟨_, c41, .inl rfl⟩, by kernel_rfl⟩⟩
theorem c42 : (Tryz.f114.body.map fun c => compC (E.opt ⟨[], [], [], [], [], [], [], false⟩) Tryz.f114.ntmps [0, 2] c) = some PI.Tr.f_ref03_Letter.code := by kernel_rfl
theorem o42 (tabs : List (Nat × Nat × Value)) (rows : List (Nat × TypeId × Nat)) (errT : Nat) : FnS E (N0 tabs rows errT) 42 PI.Tr.f_ref03_Letter := ⟨rfl, rfl, .inl ⟨rfl, rfl, Tryz.f114, [0, 2], Tryz.func114, by decide, by decide, by decide, rfl, by decide, by decide, ⟨_, c42, .inl rfl⟩, by kernel_rfl⟩⟩
theorem c43 : (Tryz.f115.body.map fun c => compC (E.opt ⟨[], [], [], [], [], [], [], false⟩) Tryz.f115.ntmps [0, 2] c) = some PI.Tr.f_ref03_inner.code := by kernel_rfl
theorem o43 (tabs : List (Nat × Nat × Value)) (rows : List (Nat × TypeId × Nat)) (errT : Nat) : FnS E (N0 tabs rows errT) 43 PI.Tr.f_ref03_inner := ⟨rfl, rfl, .inl ⟨rfl, rfl, Tryz.f115, [0, 2], Tryz.func115, by decide, by decide, by decide, rfl, by decide, by decide, ⟨_, c43, .inl rfl⟩, by kernel_rfl⟩⟩
theorem c44 : (Tryz.f116.body.map fun c => compC (E.opt ⟨[], [], [], [], [], [], [], false⟩) Tryz.f116.ntmps [0, 2, 3, 4] c) = some PI.Tr.f_ref03_Keyword.code := by kernel_rfl
theorem o44 (tabs : List (Nat × Nat × Value)) (rows : List (Nat × TypeId × Nat)) (errT : Nat) : FnS E (N0 tabs rows errT) 44 PI.Tr.f_ref03_Keyword := ⟨rfl, rfl, .inl ⟨rfl, rfl, Tryz.f116, [0, 2, 3, 4], Tryz.func116, by decide, by decide, by decide, rfl, by decide, by decide, ⟨_, c44, .inl rfl⟩, by kernel_rfl⟩⟩
theorem c45 : (Tryz.f105.body.map fun c => compC (E.opt ⟨[], [], [], [], [], [], [], false⟩) Tryz.f105.ntmps [0, 1, 4, 6] c) = some PI.Tr.f_value_valid.code := by kernel_rfl
theorem o45 (tabs : List (Nat × Nat × Value)) (rows : List (Nat × TypeId × Nat)) (errT : Nat) : FnS E (N0 tabs rows errT) 45 PI.Tr.f_value_valid := ⟨rfl, rfl, .inl ⟨rfl, rfl, Tryz.f105, [0, 1, 4, 6], Tryz.func105, by decide, by decide, by decide, rfl, by decide, by decide, ⟨_, c45, .inl rfl⟩, by kernel_rfl⟩⟩
theorem c46 : (Tryz.f106.body.map fun c => compC (E.opt ⟨[], [], [], [], [], [], [], false⟩) Tryz.f106.ntmps [0, 2] c) = some PI.Tr.f_strconv_FormatBool.code := by kernel_rfl
theorem o46 (tabs : List (Nat × Nat × Value)) (rows : List (Nat × TypeId × Nat)) (errT : Nat) : FnS E (N0 tabs rows errT) 46 PI.Tr.f_strconv_FormatBool := ⟨rfl, rfl, .inl ⟨rfl, rfl, Tryz.f106, [0, 2], Tryz.func106, by decide, by decide, by decide, rfl, by decide, by decide, ⟨_, c46, .inl rfl⟩, by kernel_rfl⟩⟩
theorem c48 : (Tryz.f109.body.map fun c => compC (E.opt ⟨[], [], [], [], [], [], [], false⟩) Tryz.f109.ntmps [0, 2] c) = some PI.Tr.f_lex_letter.code := by kernel_rfl
theorem o48 (tabs : List (Nat × Nat × Value)) (rows : List (Nat × TypeId × Nat)) (errT : Nat) : FnS E (N0 tabs rows errT) 48 PI.Tr.f_lex_letter := ⟨rfl, rfl, .inl ⟨rfl, rfl, Tryz.f109, [0, 2], Tryz.func109, by decide, by decide, by decide, rfl, by decide, by decide, ⟨_, c48, .inl rfl⟩, by kernel_rfl⟩⟩
theorem c49 : (Tryz.f110.body.map fun c => compC (E.opt ⟨[], [], [], [], [], [], [], false⟩) Tryz.f110.ntmps [0, 2, 3, 4] c) = some PI.Tr.f_lex_Keyword.code := by kernel_rfl
theorem o49 (tabs : List (Nat × Nat × Value)) (rows : List (Nat × TypeId × Nat)) (errT : Nat) : FnS E (N0 tabs rows errT) 49 PI.Tr.f_lex_Keyword := ⟨rfl, rfl, .inl ⟨rfl, rfl, Tryz.f110, [0, 2, 3, 4], Tryz.func110, by decide, by decide, by decide, rfl, by decide, by decide, ⟨_, c49, .inl rfl⟩, by kernel_rfl⟩⟩
theorem c50 : (Tryz.f111.body.map fun c => compC (E.opt ⟨[], [], [], [], [], [], [], false⟩) Tryz.f111.ntmps [0, 2] c) = some PI.Tr.f_lex_inner.code := by kernel_rfl
theorem o50 (tabs : List (Nat × Nat × Value)) (rows : List (Nat × TypeId × Nat)) (errT : Nat) : FnS E (N0 tabs rows errT) 50 PI.Tr.f_lex_inner := ⟨rfl, rfl, .inl ⟨rfl, rfl, Tryz.f111, [0, 2], Tryz.func111, by decide, by decide, by decide, rfl, by decide, by decide, ⟨_, c50, .inl rfl⟩, by kernel_rfl⟩⟩
theorem c51 : (Tryz.f112.body.map fun c => compC (E.opt ⟨[], [], [], [], [], [], [], false⟩) Tryz.f112.ntmps [0, 2] c) = some PI.Tr.f_word_In.code := by kernel_rfl
theorem o51 (tabs : List (Nat × Nat × Value)) (rows : List (Nat × TypeId × Nat)) (errT : Nat) : FnS E (N0 tabs rows errT) 51 PI.Tr.f_word_In := ⟨rfl, rfl, .inl ⟨rfl, rfl, Tryz.f112, [0, 2], Tryz.func112, by decide, by decide, by decide, rfl, by decide, by decide, ⟨_, c51, .inl rfl⟩, by kernel_rfl⟩⟩
theorem c52 : (Tryz.f113.body.map fun c => compC (E.opt ⟨[], [], [], [], [], [], [], false⟩) Tryz.f113.ntmps [0, 1, 4, 5, 7] c) = some PI.Tr.f_value_Size.code := by kernel_rfl
theorem o52 (tabs : List (Nat × Nat × Value)) (rows : List (Nat × TypeId × Nat)) (errT : Nat) : FnS E (N0 tabs rows errT) 52 PI.Tr.f_value_Size := ⟨rfl, rfl, .inl ⟨rfl, rfl, Tryz.f113, [0, 1, 4, 5, 7], Tryz.func113, by decide, by decide, by decide, rfl, by decide, by decide, ⟨_, c52, .inl rfl⟩, by kernel_rfl⟩⟩
theorem c53 : (Tryz.f117.body.map fun c => compC (E.opt ⟨[], [], [], [], [], [], [], false⟩) Tryz.f117.ntmps [0, 1, 4, 5, 6, 7, 8, 9, 10, 11, 12, 13] c) = some PI.Tr.f_internal_stringslite_Index.code := by kernel_rfl
theorem o53 (tabs : List (Nat × Nat × Value)) (rows : List (Nat × TypeId × Nat)) (errT : Nat) : FnS E (N0 tabs rows errT) 53 PI.Tr.f_internal_stringslite_Index := ⟨rfl, rfl, .inl ⟨rfl, rfl, Tryz.f117, [0, 1, 4, 5, 6, 7, 8, 9, 10, 11, 12, 13], Tryz.func117, by decide, by decide, by decide, rfl, by decide, by decide, ⟨_, c53, .inl rfl⟩, by kernel_rfl⟩⟩
theorem c55 : (Tryz.f139.body.map fun c => compC (E.opt ⟨[], [], [], [], [], [], [], false⟩) Tryz.f139.ntmps [0, 2] c) = some PI.Tr.f_ref03_digit.code := by kernel_rfl
theorem o55 (tabs : List (Nat × Nat × Value)) (rows : List (Nat × TypeId × Nat)) (errT : Nat) : FnS E (N0 tabs rows errT) 55 PI.Tr.f_ref03_digit := ⟨rfl, rfl, .inl ⟨rfl, rfl, Tryz.f139, [0, 2], Tryz.func139, by decide, by decide, by decide, rfl, by decide, by decide, ⟨_, c55, .inl rfl⟩, by kernel_rfl⟩⟩
theorem c56 : (Tryz.f140.body.map fun c => compC (E.opt ⟨[], [], [], [], [], [], [], false⟩) Tryz.f140.ntmps [0] c) = some PI.Tr.f_ref03_keywords.code := by kernel_rfl
theorem o56 (tabs : List (Nat × Nat × Value)) (rows : List (Nat × TypeId × Nat)) (errT : Nat) : FnS E (N0 tabs rows errT) 56 PI.Tr.f_ref03_keywords := ⟨rfl, rfl, .inl ⟨rfl, rfl, Tryz.f140, [0], Tryz.func140, by decide, by decide, by decide, rfl, by decide, by decide, ⟨_, c56, .inl rfl⟩, by kernel_rfl⟩⟩
theorem c57 : (Tryz.f136.body.map fun c => compC (E.opt ⟨[], [], [], [], [], [], [], false⟩) Tryz.f136.ntmps [0, 2] c) = some PI.Tr.f_internal_strconv_FormatBool.code := by kernel_rfl
theorem o57 (tabs : List (Nat × Nat × Value)) (rows : List (Nat × TypeId × Nat)) (errT : Nat) : FnS E (N0 tabs rows errT) 57 PI.Tr.f_internal_strconv_FormatBool := ⟨rfl, rfl, .inl ⟨rfl, rfl, Tryz.f136, [0, 2], Tryz.func136, by decide, by decide, by decide, rfl, by decide, by decide, ⟨_, c57, .inl rfl⟩, by kernel_rfl⟩⟩
theorem c58 : (Tryz.f138.body.map fun c => compC (E.opt ⟨[], [], [], [], [], [], [], false⟩) Tryz.f138.ntmps [0, 2] c) = some PI.Tr.f_lex_digit.code := by kernel_rfl
theorem o58 (tabs : List (Nat × Nat × Value)) (rows : List (Nat × TypeId × Nat)) (errT : Nat) : FnS E (N0 tabs rows errT) 58 PI.Tr.f_lex_digit := ⟨rfl, rfl, .inl ⟨rfl, rfl, Tryz.f138, [0, 2], Tryz.func138, by decide, by decide, by decide, rfl, by decide, by decide, ⟨_, c58, .inl rfl⟩, by kernel_rfl⟩⟩
theorem c60 : (Tryz.f143.body.map fun c => compC (E.opt ⟨[], [], [], [], [], [], [], false⟩) Tryz.f143.ntmps [0, 2] c) = some PI.Tr.f_internal_bytealg_Cutover.code := by kernel_rfl
theorem o60 (tabs : List (Nat × Nat × Value)) (rows : List (Nat × TypeId × Nat)) (errT : Nat) : FnS E (N0 tabs rows errT) 60 PI.Tr.f_internal_bytealg_Cutover := ⟨rfl, rfl, .inl ⟨rfl, rfl, Tryz.f143, [0, 2], Tryz.func143, by decide, by decide, by decide, rfl, by decide, by decide, ⟨_, c60, .inl rfl⟩, by kernel_rfl⟩⟩
theorem c61 : (Tryz.f144.body.map fun c => compC (E.opt ⟨[], [], [], [], [], [], [], false⟩) Tryz.f144.ntmps [0, 1, 4, 5, 6, 7, 8, 9, 10] c) = some PI.Tr.f_internal_bytealg_IndexRabinKarp_string.code := by kernel_rfl
theorem o61 (tabs : List (Nat × Nat × Value)) (rows : List (Nat × TypeId × Nat)) (errT : Nat) : FnS E (N0 tabs rows errT) 61 PI.Tr.f_internal_bytealg_IndexRabinKarp_string := ⟨rfl, rfl, .inl ⟨rfl, rfl, Tryz.f144, [0, 1, 4, 5, 6, 7, 8, 9, 10], Tryz.func144, by decide, by decide, by decide, rfl, by decide, by decide, ⟨_, c61, .inl rfl⟩, by kernel_rfl⟩⟩
theorem c62 : (Tryz.f162.body.map fun c => compC (E.opt ⟨[], [], [], [], [], [], [], false⟩) Tryz.f162.ntmps [0, 2, 3, 4, 5, 6, 7, 8] c) = some PI.Tr.f_internal_bytealg_hashStr_string.code := by kernel_rfl
theorem o62 (tabs : List (Nat × Nat × Value)) (rows : List (Nat × TypeId × Nat)) (errT : Nat) : FnS E (N0 tabs rows errT) 62 PI.Tr.f_internal_bytealg_hashStr_string := ⟨rfl, rfl, .inl ⟨rfl, rfl, Tryz.f162, [0, 2, 3, 4, 5, 6, 7, 8], Tryz.func162, by decide, by decide, by decide, rfl, by decide, by decide, ⟨_, c62, .inl rfl⟩, by kernel_rfl⟩⟩
theorem c63 : (Tryz.f3.body.map fun c => compC (E.opt ⟨[], [], [], [], [], [], [], false⟩) Tryz.f3.ntmps [0, 1, 3, 4, 5, 6, 7, 8] c) = some PI.Tr.f_law43_TraceTexts.code := by kernel_rfl
theorem o63 (tabs : List (Nat × Nat × Value)) (rows : List (Nat × TypeId × Nat)) (errT : Nat) : FnS E (N0 tabs rows errT) 63 PI.Tr.f_law43_TraceTexts := ⟨rfl, rfl, .inl ⟨rfl, rfl, Tryz.f3, [0, 1, 3, 4, 5, 6, 7, 8], Tryz.func3, by decide, by decide, by decide, rfl, by decide, by decide, ⟨_, c63, .inl rfl⟩, by kernel_rfl⟩⟩
theorem c64 : (Tryz.f4.body.map fun c => compC (E.opt ⟨[], [], [], [], [], [], [], false⟩) Tryz.f4.ntmps [0, 1, 4, 5, 6, 7, 8, 9, 10] c) = some PI.Tr.f_law43_TraceParses.code := by kernel_rfl
theorem o64 (tabs : List (Nat × Nat × Value)) (rows : List (Nat × TypeId × Nat)) (errT : Nat) : FnS E (N0 tabs rows errT) 64 PI.Tr.f_law43_TraceParses := ⟨rfl, rfl, .inl ⟨rfl, rfl, Tryz.f4, [0, 1, 4, 5, 6, 7, 8, 9, 10], Tryz.func4, by decide, by decide, by decide, rfl, by decide, by decide, ⟨_, c64, .inl rfl⟩, by kernel_rfl⟩⟩
theorem c65 : (Tryz.f9.body.map fun c => compC (E.opt ⟨[], [], [], [], [], [], [], false⟩) Tryz.f9.ntmps [0, 1, 3, 4, 5, 6, 7, 8, 9, 10, 12, 13, 14, 15, 16, 17, 84] c) = some PI.Tr.f_ref43_Text.code := by kernel_rfl
theorem o65 (tabs : List (Nat × Nat × Value)) (rows : List (Nat × TypeId × Nat)) (errT : Nat) : FnS E (N0 tabs rows errT) 65 PI.Tr.f_ref43_Text := ⟨rfl, rfl, .inl ⟨rfl, rfl, Tryz.f9, [0, 1, 3, 4, 5, 6, 7, 8, 9, 10, 12, 13, 14, 15, 16, 17, 84], Tryz.func9, by decide, by decide, by decide, rfl, by decide, by decide, ⟨_, c65, .inl rfl⟩, by kernel_rfl⟩⟩
theorem c66 : (Tryz.f11.body.map fun c => compC (E.opt ⟨[], [], [], [], [], [], [], false⟩) Tryz.f11.ntmps [0, 1, 3, 4, 5, 6, 7, 8, 9] c) = some PI.Tr.f_ref43_Check.code := by kernel_rfl
theorem o66 (tabs : List (Nat × Nat × Value)) (rows : List (Nat × TypeId × Nat)) (errT : Nat) : FnS E (N0 tabs rows errT) 66 PI.Tr.f_ref43_Check := ⟨rfl, rfl, .inl ⟨rfl, rfl, Tryz.f11, [0, 1, 3, 4, 5, 6, 7, 8, 9], Tryz.func11, by decide, by decide, by decide, rfl, by decide, by decide, ⟨_, c66, .inl rfl⟩, by kernel_rfl⟩⟩
theorem c67 : (Tryz.f13.body.map fun c => compC (E.opt ⟨[], [], [], [], [], [], [], false⟩) Tryz.f13.ntmps [0, 1, 4, 5, 6, 7, 8, 9, 10, 11, 12, 13, 14, 15, 16, 17, 18] c) = some PI.Tr.f_ref43_Parse.code := by kernel_rfl
theorem o67 (tabs : List (Nat × Nat × Value)) (rows : List (Nat × TypeId × Nat)) (errT : Nat) : FnS E (N0 tabs rows errT) 67 PI.Tr.f_ref43_Parse := ⟨rfl, rfl, .inl ⟨rfl, rfl, Tryz.f13, [0, 1, 4, 5, 6, 7, 8, 9, 10, 11, 12, 13, 14, 15, 16, 17, 18], Tryz.func13, by decide, by decide, by decide, rfl, by decide, by decide, ⟨_, c67, .inl rfl⟩, by kernel_rfl⟩⟩
theorem c68 : (Tryz.f32.body.map fun c => compC (E.opt ⟨[], [], [], [], [], [], [], false⟩) Tryz.f32.ntmps [0, 1, 4, 5] c) = some PI.Tr.f_ref05_Name.code := by kernel_rfl
theorem o68 (tabs : List (Nat × Nat × Value)) (rows : List (Nat × TypeId × Nat)) (errT : Nat) : FnS E (N0 tabs rows errT) 68 PI.Tr.f_ref05_Name := ⟨rfl, rfl, .inl ⟨rfl, rfl, Tryz.f32, [0, 1, 4, 5], Tryz.func32, by decide, by decide, by decide, rfl, by decide, by decide, ⟨_, c68, .inl rfl⟩, by kernel_rfl⟩⟩
theorem c69 : (Tryz.f33.body.map fun c => compC (E.opt ⟨[], [], [], [], [], [], [], false⟩) Tryz.f33.ntmps [0, 2, 3, 4] c) = some PI.Tr.f_ref43_line.code := by kernel_rfl
theorem o69 (tabs : List (Nat × Nat × Value)) (rows : List (Nat × TypeId × Nat)) (errT : Nat) : FnS E (N0 tabs rows errT) 69 PI.Tr.f_ref43_line := ⟨rfl, rfl, .inl ⟨rfl, rfl, Tryz.f33, [0, 2, 3, 4], Tryz.func33, by decide, by decide, by decide, rfl, by decide, by decide, ⟨_, c69, .inl rfl⟩, by kernel_rfl⟩⟩
theorem c70 : (Tryz.f34.body.map fun c => compC (E.opt ⟨[], [], [], [], [], [], [], false⟩) Tryz.f34.ntmps [0, 1, 2, 6, 7] c) = some PI.Tr.f_ref05_Text.code := by kernel_rfl
theorem o70 (tabs : List (Nat × Nat × Value)) (rows : List (Nat × TypeId × Nat)) (errT : Nat) : FnS E (N0 tabs rows errT) 70 PI.Tr.f_ref05_Text := ⟨rfl, rfl, .inl ⟨rfl, rfl, Tryz.f34, [0, 1, 2, 6, 7], Tryz.func34, by decide, by decide, by decide, rfl, by decide, by decide, ⟨_, c70, .inl rfl⟩, by kernel_rfl⟩⟩
theorem c71 : (Tryz.f37.body.map fun c => compC (E.opt ⟨[], [], [], [], [], [], [], false⟩) Tryz.f37.ntmps [0, 1, 2, 6, 7, 9, 10] c) = some PI.Tr.f_ref43_column.code := by kernel_rfl
theorem o71 (tabs : List (Nat × Nat × Value)) (rows : List (Nat × TypeId × Nat)) (errT : Nat) : FnS E (N0 tabs rows errT) 71 PI.Tr.f_ref43_column := ⟨rfl, rfl, .inl ⟨rfl, rfl, Tryz.f37, [0, 1, 2, 6, 7, 9, 10], Tryz.func37, by decide, by decide, by decide, rfl, by decide, by decide, ⟨_, c71, .inl rfl⟩, by kernel_rfl⟩⟩
theorem c72 : (Tryz.f38.body.map fun c => compC (E.opt ⟨[], [], [], [], [], [], [], false⟩) Tryz.f38.ntmps [0, 1, 2, 5, 6] c) = some PI.Tr.f_ref43_cell.code := by kernel_rfl
theorem o72 (tabs : List (Nat × Nat × Value)) (rows : List (Nat × TypeId × Nat)) (errT : Nat) : FnS E (N0 tabs rows errT) 72 PI.Tr.f_ref43_cell := ⟨rfl, rfl, .inl ⟨rfl, rfl, Tryz.f38, [0, 1, 2, 5, 6], Tryz.func38, by decide, by decide, by decide, rfl, by decide, by decide, ⟨_, c72, .inl rfl⟩, by kernel_rfl⟩⟩
theorem c73 : (Tryz.f45.body.map fun c => compC (E.opt ⟨[], [], [], [], [], [], [], false⟩) Tryz.f45.ntmps [0, 2, 3, 4, 5] c) = some PI.Tr.f_ref36_Words.code := by kernel_rfl
theorem o73 (tabs : List (Nat × Nat × Value)) (rows : List (Nat × TypeId × Nat)) (errT : Nat) : FnS E (N0 tabs rows errT) 73 PI.Tr.f_ref36_Words := ⟨rfl, rfl, .inl ⟨rfl, rfl, Tryz.f45, [0, 2, 3, 4, 5], Tryz.func45, by decide, by decide, by decide, rfl, by decide, by decide, ⟨_, c73, .inl rfl⟩, by kernel_rfl⟩⟩
theorem c74 : (Tryz.f46.body.map fun c => compC (E.opt ⟨[], [], [], [], [], [], [], false⟩) Tryz.f46.ntmps [0, 2, 3, 4] c) = some PI.Tr.f_ref43_names.code := by kernel_rfl
theorem o74 (tabs : List (Nat × Nat × Value)) (rows : List (Nat × TypeId × Nat)) (errT : Nat) : FnS E (N0 tabs rows errT) 74 PI.Tr.f_ref43_names := ⟨rfl, rfl, .inl ⟨rfl, rfl, Tryz.f46, [0, 2, 3, 4], Tryz.func46, by decide, by decide, by decide, rfl, by decide, by decide, ⟨_, c74, .inl rfl⟩, by kernel_rfl⟩⟩
theorem c75 : (Tryz.f47.body.map fun c => compC (E.opt ⟨[], [], [], [], [], [], [], false⟩) Tryz.f47.ntmps [0, 1, 4, 5, 6] c) = some PI.Tr.f_ref05_Type.code := by kernel_rfl
theorem o75 (tabs : List (Nat × Nat × Value)) (rows : List (Nat × TypeId × Nat)) (errT : Nat) : FnS E (N0 tabs rows errT) 75 PI.Tr.f_ref05_Type := ⟨rfl, rfl, .inl ⟨rfl, rfl, Tryz.f47, [0, 1, 4, 5, 6], Tryz.func47, by decide, by decide, by decide, rfl, by decide, by decide, ⟨_, c75, .inl rfl⟩, by kernel_rfl⟩⟩
theorem c76 : (Tryz.f48.body.map fun c => compC (E.opt ⟨[], [], [], [], [], [], [], false⟩) Tryz.f48.ntmps [0, 1, 2, 6, 7, 8, 9, 10, 11, 26] c) = some PI.Tr.f_ref43_row.code := by kernel_rfl
theorem o76 (tabs : List (Nat × Nat × Value)) (rows : List (Nat × TypeId × Nat)) (errT : Nat) : FnS E (N0 tabs rows errT) 76 PI.Tr.f_ref43_row := ⟨rfl, rfl, .inl ⟨rfl, rfl, Tryz.f48, [0, 1, 2, 6, 7, 8, 9, 10, 11, 26], Tryz.func48, by decide, by decide, by decide, rfl, by decide, by decide, ⟨_, c76, .inl rfl⟩, by kernel_rfl⟩⟩
theorem c77 : (Tryz.f70.body.map fun c => compC (E.opt ⟨[], [], [], [], [], [], [], false⟩) Tryz.f70.ntmps [0, 1, 4] c) = some PI.Tr.f_ref05_known.code := by kernel_rfl
theorem o77 (tabs : List (Nat × Nat × Value)) (rows : List (Nat × TypeId × Nat)) (errT : Nat) : FnS E (N0 tabs rows errT) 77 PI.Tr.f_ref05_known := ⟨rfl, rfl, .inl ⟨rfl, rfl, Tryz.f70, [0, 1, 4], Tryz.func70, by decide, by decide, by decide, rfl, by decide, by decide, ⟨_, c77, .inl rfl⟩, by kernel_rfl⟩⟩
theorem c78 : (Tryz.f71.body.map fun c => compC (E.opt ⟨[], [], [], [], [], [], [], false⟩) Tryz.f71.ntmps [0, 1, 2, 6] c) = some PI.Tr.f_ref05_Has.code := by kernel_rfl
theorem o78 (tabs : List (Nat × Nat × Value)) (rows : List (Nat × TypeId × Nat)) (errT : Nat) : FnS E (N0 tabs rows errT) 78 PI.Tr.f_ref05_Has := ⟨rfl, rfl, .inl ⟨rfl, rfl, Tryz.f71, [0, 1, 2, 6], Tryz.func71, by decide, by decide, by decide, rfl, by decide, by decide, ⟨_, c78, .inl rfl⟩, by kernel_rfl⟩⟩
theorem c79 : (Tryz.f72.body.map fun c => compC (E.opt ⟨[], [], [], [], [], [], [], false⟩) Tryz.f72.ntmps [0, 2] c) = some PI.Tr.f_ref05_Decimal.code := by kernel_rfl
theorem o79 (tabs : List (Nat × Nat × Value)) (rows : List (Nat × TypeId × Nat)) (errT : Nat) : FnS E (N0 tabs rows errT) 79 PI.Tr.f_ref05_Decimal := ⟨rfl, rfl, .inl ⟨rfl, rfl, Tryz.f72, [0, 2], Tryz.func72, by decide, by decide, by decide, rfl, by decide, by decide, ⟨_, c79, .inl rfl⟩, by kernel_rfl⟩⟩
theorem c80 : (Tryz.f79.body.map fun c => compC (E.opt ⟨[], [], [], [], [], [], [], false⟩) Tryz.f79.ntmps [0, 1, 2, 6, 7, 8, 9, 10, 11] c) = some PI.Tr.f_ref05_Parse.code := by kernel_rfl
theorem o80 (tabs : List (Nat × Nat × Value)) (rows : List (Nat × TypeId × Nat)) (errT : Nat) : FnS E (N0 tabs rows errT) 80 PI.Tr.f_ref05_Parse := ⟨rfl, rfl, .inl ⟨rfl, rfl, Tryz.f79, [0, 1, 2, 6, 7, 8, 9, 10, 11], Tryz.func79, by decide, by decide, by decide, rfl, by decide, by decide, ⟨_, c80, .inl rfl⟩, by kernel_rfl⟩⟩
theorem c81 : (Tryz.f108.body.map fun c => compC (E.opt ⟨[], [], [], [], [], [], [], false⟩) Tryz.f108.ntmps [0, 1, 4] c) = some PI.Tr.f_ref05_Size.code := by kernel_rfl
theorem o81 (tabs : List (Nat × Nat × Value)) (rows : List (Nat × TypeId × Nat)) (errT : Nat) : FnS E (N0 tabs rows errT) 81 PI.Tr.f_ref05_Size := ⟨rfl, rfl, .inl ⟨rfl, rfl, Tryz.f108, [0, 1, 4], Tryz.func108, by decide, by decide, by decide, rfl, by decide, by decide, ⟨_, c81, .inl rfl⟩, by kernel_rfl⟩⟩
theorem c82 : (Tryz.f119.body.map fun c => compC (E.opt ⟨[], [], [], [], [], [], [], false⟩) Tryz.f119.ntmps [0, 2, 3, 4, 5, 6] c) = some PI.Tr.f_ref05_number.code := by kernel_rfl
theorem o82 (tabs : List (Nat × Nat × Value)) (rows : List (Nat × TypeId × Nat)) (errT : Nat) : FnS E (N0 tabs rows errT) 82 PI.Tr.f_ref05_number := ⟨rfl, rfl, .inl ⟨rfl, rfl, Tryz.f119, [0, 2, 3, 4, 5, 6], Tryz.func119, by decide, by decide, by decide, rfl, by decide, by decide, ⟨_, c82, .inl rfl⟩, by kernel_rfl⟩⟩
theorem c204 : (Tryz.f15.body.map fun c => compC (E.opt ⟨[], [], [], [], [], [], [], false⟩) Tryz.f15.ntmps [0, 1, 2, 3, 4] c) = some PI.Ct.f_law44_huge.code := by kernel_rfl
theorem o204 (tabs : List (Nat × Nat × Value)) (rows : List (Nat × TypeId × Nat)) (errT : Nat) : FnS E (N0 tabs rows errT) 204 PI.Ct.f_law44_huge := ⟨rfl, rfl, .inl ⟨rfl, rfl, Tryz.f15, [0, 1, 2, 3, 4], Tryz.func15, by decide, by decide, by decide, rfl, by decide, by decide, ⟨_, c204, .inl rfl⟩, by kernel_rfl⟩⟩
theorem c205 : (Tryz.f17.body.map fun c => compC (E.opt ⟨[], [], [], [], [], [], [], false⟩) Tryz.f17.ntmps [0, 1, 2, 3, 4, 5, 6, 9, 10, 11, 12, 13] c) = some PI.Ct.f_law44_awake.code := by kernel_rfl
theorem o205 (tabs : List (Nat × Nat × Value)) (rows : List (Nat × TypeId × Nat)) (errT : Nat) : FnS E (N0 tabs rows errT) 205 PI.Ct.f_law44_awake := ⟨rfl, rfl, .inl ⟨rfl, rfl, Tryz.f17, [0, 1, 2, 3, 4, 5, 6, 9, 10, 11, 12, 13], Tryz.func17, by decide, by decide, by decide, rfl, by decide, by decide, ⟨_, c205, .inl rfl⟩, by kernel_rfl⟩⟩
theorem c206 : (Tryz.f20.body.map fun c => compC (E.opt ⟨[], [], [], [], [], [], [], false⟩) Tryz.f20.ntmps [0, 1, 2, 3, 4] c) = some PI.Ct.f_compare_Same.code := by kernel_rfl
theorem o206 (tabs : List (Nat × Nat × Value)) (rows : List (Nat × TypeId × Nat)) (errT : Nat) : FnS E (N0 tabs rows errT) 206 PI.Ct.f_compare_Same := ⟨rfl, rfl, .inl ⟨rfl, rfl, Tryz.f20, [0, 1, 2, 3, 4], Tryz.func20, by decide, by decide, by decide, rfl, by decide, by decide, ⟨_, c206, .inl rfl⟩, by kernel_rfl⟩⟩
theorem c209 : (Tryz.f82.body.map fun c => compC (E.opt ⟨[], [61], [], [], [], [], [], false⟩) Tryz.f82.ntmps [0, 1, 2, 3, 4, 5, 6, 8, 10, 14, 15, 16] c) = some PI.Ct.f_compare_Common.code := by kernel_rfl
theorem o209 (tabs : List (Nat × Nat × Value)) (rows : List (Nat × TypeId × Nat)) (errT : Nat) : FnS E (N0 tabs rows errT) 209 PI.Ct.f_compare_Common := ⟨rfl, rfl, .inl ⟨rfl, rfl, Tryz.f82, [0, 1, 2, 3, 4, 5, 6, 8, 10, 14, 15, 16], Tryz.func82, by decide, by decide, by decide, rfl, by decide, by decide, ⟨_, c209, .inl rfl⟩, by kernel_rfl⟩⟩
theorem c211 : (Tryz.f53.body.map fun c => compC (E.opt ⟨[], [61], [], [], [], [], [], false⟩) Tryz.f53.ntmps [0, 1, 2, 3, 4, 5, 6, 7, 8, 9, 10, 11, 13, 31, 32, 35, 36, 37] c) = some PI.Ct.f_compare_First.code := by kernel_rfl
theorem o211 (tabs : List (Nat × Nat × Value)) (rows : List (Nat × TypeId × Nat)) (errT : Nat) : FnS E (N0 tabs rows errT) 211 PI.Ct.f_compare_First := ⟨rfl, rfl, .inl ⟨rfl, rfl, Tryz.f53, [0, 1, 2, 3, 4, 5, 6, 7, 8, 9, 10, 11, 13, 31, 32, 35, 36, 37], Tryz.func53, by decide, by decide, by decide, rfl, by decide, by decide, ⟨_, c211, .inl rfl⟩, by kernel_rfl⟩⟩
theorem c213 : (Tryz.f19.body.map fun c => compC (E.opt ⟨[], [61], [], [], [], [], [], false⟩) Tryz.f19.ntmps [0, 1, 2, 4, 5, 6, 7, 9, 10, 11, 13, 14, 16, 19, 20, 21, 47, 48, 49, 53, 54, 55] c) = some PI.Ct.f_compare_Project.code := by kernel_rfl
theorem o213 (tabs : List (Nat × Nat × Value)) (rows : List (Nat × TypeId × Nat)) (errT : Nat) : FnS E (N0 tabs rows errT) 213 PI.Ct.f_compare_Project := ⟨rfl, rfl, .inl ⟨rfl, rfl, Tryz.f19, [0, 1, 2, 4, 5, 6, 7, 9, 10, 11, 13, 14, 16, 19, 20, 21, 47, 48, 49, 53, 54, 55], Tryz.func19, by decide, by decide, by decide, rfl, by decide, by decide, ⟨_, c213, .inl rfl⟩, by kernel_rfl⟩⟩
theorem c215 : (Tryz.f55.body.map fun c => compC (E.opt ⟨[], [], [], [], [], [], [], false⟩) Tryz.f55.ntmps [0, 1, 2, 3, 4, 5, 6, 8, 10, 12, 32, 33, 34, 50, 51, 54, 55, 56] c) = some PI.Ct.f_compare_Append.code := by kernel_rfl
theorem o215 (tabs : List (Nat × Nat × Value)) (rows : List (Nat × TypeId × Nat)) (errT : Nat) : FnS E (N0 tabs rows errT) 215 PI.Ct.f_compare_Append := ⟨rfl, rfl, .inl ⟨rfl, rfl, Tryz.f55, [0, 1, 2, 3, 4, 5, 6, 8, 10, 12, 32, 33, 34, 50, 51, 54, 55, 56], Tryz.func55, by decide, by decide, by decide, rfl, by decide, by decide, ⟨_, c215, .inl rfl⟩, by kernel_rfl⟩⟩
theorem c217 : (Tryz.f56.body.map fun c => compC (E.opt ⟨[], [], [], [], [], [], [], false⟩) Tryz.f56.ntmps [0, 1, 2, 3, 4] c) = some PI.Ct.f_compare_Prefix.code := by kernel_rfl
theorem o217 (tabs : List (Nat × Nat × Value)) (rows : List (Nat × TypeId × Nat)) (errT : Nat) : FnS E (N0 tabs rows errT) 217 PI.Ct.f_compare_Prefix := ⟨rfl, rfl, .inl ⟨rfl, rfl, Tryz.f56, [0, 1, 2, 3, 4], Tryz.func56, by decide, by decide, by decide, rfl, by decide, by decide, ⟨_, c217, .inl rfl⟩, by kernel_rfl⟩⟩
theorem c220 : (Tryz.f16.body.map fun c => compC (E.opt ⟨[], [], [], [], [], [], [], false⟩) Tryz.f16.ntmps [0, 1, 2, 4, 5, 6, 7, 8] c) = some PI.Ct.f_ref10_Weigh.code := by kernel_rfl
theorem o220 (tabs : List (Nat × Nat × Value)) (rows : List (Nat × TypeId × Nat)) (errT : Nat) : FnS E (N0 tabs rows errT) 220 PI.Ct.f_ref10_Weigh := ⟨rfl, rfl, .inl ⟨rfl, rfl, Tryz.f16, [0, 1, 2, 4, 5, 6, 7, 8], Tryz.func16, by decide, by decide, by decide, rfl, by decide, by decide, ⟨_, c220, .inl rfl⟩, by kernel_rfl⟩⟩
theorem c221 : (Tryz.f54.body.map fun c => compC (E.opt ⟨[], [], [], [], [], [], [], false⟩) Tryz.f54.ntmps [0, 1, 4, 5, 6] c) = some PI.Ct.f_law44_column.code := by kernel_rfl
theorem o221 (tabs : List (Nat × Nat × Value)) (rows : List (Nat × TypeId × Nat)) (errT : Nat) : FnS E (N0 tabs rows errT) 221 PI.Ct.f_law44_column := ⟨rfl, rfl, .inl ⟨rfl, rfl, Tryz.f54, [0, 1, 4, 5, 6], Tryz.func54, by decide, by decide, by decide, rfl, by decide, by decide, ⟨_, c221, .inl rfl⟩, by kernel_rfl⟩⟩
theorem c222 : (Tryz.f64.body.map fun c => compC (E.opt ⟨[], [], [], [], [], [], [], false⟩) Tryz.f64.ntmps [0, 1, 4] c) = some PI.Ct.f_compare_same.code := by kernel_rfl
theorem o222 (tabs : List (Nat × Nat × Value)) (rows : List (Nat × TypeId × Nat)) (errT : Nat) : FnS E (N0 tabs rows errT) 222 PI.Ct.f_compare_same := ⟨rfl, rfl, .inl ⟨rfl, rfl, Tryz.f64, [0, 1, 4], Tryz.func64, by decide, by decide, by decide, rfl, by decide, by decide, ⟨_, c222, .inl rfl⟩, by kernel_rfl⟩⟩
theorem c223 : (Tryz.f65.body.map fun c => compC (E.opt ⟨[], [], [], [], [], [], [], false⟩) Tryz.f65.ntmps [0, 1, 4] c) = some PI.Ct.f_compare_equal.code := by kernel_rfl
theorem o223 (tabs : List (Nat × Nat × Value)) (rows : List (Nat × TypeId × Nat)) (errT : Nat) : FnS E (N0 tabs rows errT) 223 PI.Ct.f_compare_equal := ⟨rfl, rfl, .inl ⟨rfl, rfl, Tryz.f65, [0, 1, 4], Tryz.func65, by decide, by decide, by decide, rfl, by decide, by decide, ⟨_, c223, .inl rfl⟩, by kernel_rfl⟩⟩
theorem c225 : (Tryz.f61.body.map fun c => compC (E.opt ⟨[], [], [], [], [], [], [], false⟩) Tryz.f61.ntmps [0, 1, 2, 3, 4, 5, 7, 10, 11, 12] c) = some PI.Ct.f_compare_columns.code := by kernel_rfl
theorem o225 (tabs : List (Nat × Nat × Value)) (rows : List (Nat × TypeId × Nat)) (errT : Nat) : FnS E (N0 tabs rows errT) 225 PI.Ct.f_compare_columns := ⟨rfl, rfl, .inl ⟨rfl, rfl, Tryz.f61, [0, 1, 2, 3, 4, 5, 7, 10, 11, 12], Tryz.func61, by decide, by decide, by decide, rfl, by decide, by decide, ⟨_, c225, .inl rfl⟩, by kernel_rfl⟩⟩
theorem c226 : (Tryz.f120.body.map fun c => compC (E.opt ⟨[], [], [], [], [], [], [], false⟩) Tryz.f120.ntmps [0, 1, 4] c) = some PI.Ct.f_slices_Contains_string.code := by kernel_rfl
theorem o226 (tabs : List (Nat × Nat × Value)) (rows : List (Nat × TypeId × Nat)) (errT : Nat) : FnS E (N0 tabs rows errT) 226 PI.Ct.f_slices_Contains_string := ⟨rfl, rfl, .inl ⟨rfl, rfl, Tryz.f120, [0, 1, 4], Tryz.func120, by decide, by decide, by decide, rfl, by decide, by decide, ⟨_, c226, .inl rfl⟩, by kernel_rfl⟩⟩
theorem c229 : (Tryz.f63.body.map fun c => compC (E.opt ⟨[], [], [], [], [], [], [], false⟩) Tryz.f63.ntmps [0, 1, 4] c) = some PI.Ct.f_compare_cell.code := by kernel_rfl
theorem o229 (tabs : List (Nat × Nat × Value)) (rows : List (Nat × TypeId × Nat)) (errT : Nat) : FnS E (N0 tabs rows errT) 229 PI.Ct.f_compare_cell := ⟨rfl, rfl, .inl ⟨rfl, rfl, Tryz.f63, [0, 1, 4], Tryz.func63, by decide, by decide, by decide, rfl, by decide, by decide, ⟨_, c229, .inl rfl⟩, by kernel_rfl⟩⟩
theorem c231 : (Tryz.f62.body.map fun c => compC (E.opt ⟨[], [], [], [], [], [], [], false⟩) Tryz.f62.ntmps [0, 1, 2] c) = some PI.Ct.f_compare_copied.code := by kernel_rfl
theorem o231 (tabs : List (Nat × Nat × Value)) (rows : List (Nat × TypeId × Nat)) (errT : Nat) : FnS E (N0 tabs rows errT) 231 PI.Ct.f_compare_copied := ⟨rfl, rfl, .inl ⟨rfl, rfl, Tryz.f62, [0, 1, 2], Tryz.func62, by decide, by decide, by decide, rfl, by decide, by decide, ⟨_, c231, .inl rfl⟩, by kernel_rfl⟩⟩
theorem c232 : (Tryz.f83.body.map fun c => compC (E.opt ⟨[], [], [], [], [], [], [], false⟩) Tryz.f83.ntmps [0, 2] c) = some PI.Ct.f_slices_Clone_api_Cell.code := by kernel_rfl
theorem o232 (tabs : List (Nat × Nat × Value)) (rows : List (Nat × TypeId × Nat)) (errT : Nat) : FnS E (N0 tabs rows errT) 232 PI.Ct.f_slices_Clone_api_Cell := ⟨rfl, rfl, .inl ⟨rfl, rfl, Tryz.f83, [0, 2], Tryz.func83, by decide, by decide, by decide, rfl, by decide, by decide, ⟨_, c232, .inl rfl⟩, by kernel_rfl⟩⟩
theorem c234 : (Tryz.f49.body.map fun c => compC (E.opt ⟨[], [], [], [], [], [], [], false⟩) Tryz.f49.ntmps [0, 1, 4, 5, 6] c) = some PI.Ct.f_ref10_weighDecls.code := by kernel_rfl
theorem o234 (tabs : List (Nat × Nat × Value)) (rows : List (Nat × TypeId × Nat)) (errT : Nat) : FnS E (N0 tabs rows errT) 234 PI.Ct.f_ref10_weighDecls := ⟨rfl, rfl, .inl ⟨rfl, rfl, Tryz.f49, [0, 1, 4, 5, 6], Tryz.func49, by decide, by decide, by decide, rfl, by decide, by decide, ⟨_, c234, .inl rfl⟩, by kernel_rfl⟩⟩
theorem c235 : (Tryz.f50.body.map fun c => compC (E.opt ⟨[], [], [], [], [], [], [], false⟩) Tryz.f50.ntmps [0, 1, 4, 5, 6] c) = some PI.Ct.f_ref10_weighEqs.code := by kernel_rfl
theorem o235 (tabs : List (Nat × Nat × Value)) (rows : List (Nat × TypeId × Nat)) (errT : Nat) : FnS E (N0 tabs rows errT) 235 PI.Ct.f_ref10_weighEqs := ⟨rfl, rfl, .inl ⟨rfl, rfl, Tryz.f50, [0, 1, 4, 5, 6], Tryz.func50, by decide, by decide, by decide, rfl, by decide, by decide, ⟨_, c235, .inl rfl⟩, by kernel_rfl⟩⟩
theorem c236 : (Tryz.f51.body.map fun c => compC (E.opt ⟨[], [], [], [], [], [], [], false⟩) Tryz.f51.ntmps [0, 1, 4, 5, 6] c) = some PI.Ct.f_ref10_weighExprs.code := by kernel_rfl
theorem o236 (tabs : List (Nat × Nat × Value)) (rows : List (Nat × TypeId × Nat)) (errT : Nat) : FnS E (N0 tabs rows errT) 236 PI.Ct.f_ref10_weighExprs := ⟨rfl, rfl, .inl ⟨rfl, rfl, Tryz.f51, [0, 1, 4, 5, 6], Tryz.func51, by decide, by decide, by decide, rfl, by decide, by decide, ⟨_, c236, .inl rfl⟩, by kernel_rfl⟩⟩
theorem c237 : (Tryz.f52.body.map fun c => compC (E.opt ⟨[], [], [], [], [], [], [], false⟩) Tryz.f52.ntmps [0, 1, 4, 5, 6, 7, 8] c) = some PI.Ct.f_ref10_weighAutos.code := by kernel_rfl
theorem o237 (tabs : List (Nat × Nat × Value)) (rows : List (Nat × TypeId × Nat)) (errT : Nat) : FnS E (N0 tabs rows errT) 237 PI.Ct.f_ref10_weighAutos := ⟨rfl, rfl, .inl ⟨rfl, rfl, Tryz.f52, [0, 1, 4, 5, 6, 7, 8], Tryz.func52, by decide, by decide, by decide, rfl, by decide, by decide, ⟨_, c237, .inl rfl⟩, by kernel_rfl⟩⟩
theorem c238 : (Tryz.f97.body.map fun c => compC (E.opt ⟨[], [], [26], [], [], [], [], false⟩) Tryz.f97.ntmps [0, 1, 2, 6, 7, 8, 9, 15, 16, 17] c) = some PI.Ct.f_slices_EqualFunc_api_Decl.code := by kernel_rfl
theorem o238 (tabs : List (Nat × Nat × Value)) (rows : List (Nat × TypeId × Nat)) (errT : Nat) : FnS E (N0 tabs rows errT) 238 PI.Ct.f_slices_EqualFunc_api_Decl := ⟨rfl, rfl, .inl ⟨rfl, rfl, Tryz.f97, [0, 1, 2, 6, 7, 8, 9, 15, 16, 17], Tryz.func97, by decide, by decide, by decide, rfl, by decide, by decide, ⟨_, c238, .inl rfl⟩, by kernel_rfl⟩⟩
theorem c239 : (Tryz.f98.body.map fun c => compC (E.opt ⟨[], [], [], [], [], [], [], false⟩) Tryz.f98.ntmps [0, 1, 2, 3, 4] c) = some PI.Ct.f_compare_same_1.code := by kernel_rfl
theorem o239 (tabs : List (Nat × Nat × Value)) (rows : List (Nat × TypeId × Nat)) (errT : Nat) : FnS E (N0 tabs rows errT) 239 PI.Ct.f_compare_same_1 := ⟨rfl, rfl, .inl ⟨rfl, rfl, Tryz.f98, [0, 1, 2, 3, 4], Tryz.func98, by decide, by decide, by decide, rfl, by decide, by decide, ⟨_, c239, .inl rfl⟩, by kernel_rfl⟩⟩
theorem c240 : (Tryz.f99.body.map fun c => compC (E.opt ⟨[], [], [], [], [], [], [], false⟩) Tryz.f99.ntmps [0, 1, 4, 5, 12, 13] c) = some PI.Ct.f_slices_Equal_api_On.code := by kernel_rfl
theorem o240 (tabs : List (Nat × Nat × Value)) (rows : List (Nat × TypeId × Nat)) (errT : Nat) : FnS E (N0 tabs rows errT) 240 PI.Ct.f_slices_Equal_api_On := ⟨rfl, rfl, .inl ⟨rfl, rfl, Tryz.f99, [0, 1, 4, 5, 12, 13], Tryz.func99, by decide, by decide, by decide, rfl, by decide, by decide, ⟨_, c240, .inl rfl⟩, by kernel_rfl⟩⟩
theorem c241 : (Tryz.f100.body.map fun c => compC (E.opt ⟨[], [], [26], [], [], [], [], false⟩) Tryz.f100.ntmps [0, 1, 2, 6, 7, 8, 9, 15, 16, 17] c) = some PI.Ct.f_slices_EqualFunc_api_Cell.code := by kernel_rfl
theorem o241 (tabs : List (Nat × Nat × Value)) (rows : List (Nat × TypeId × Nat)) (errT : Nat) : FnS E (N0 tabs rows errT) 241 PI.Ct.f_slices_EqualFunc_api_Cell := ⟨rfl, rfl, .inl ⟨rfl, rfl, Tryz.f100, [0, 1, 2, 6, 7, 8, 9, 15, 16, 17], Tryz.func100, by decide, by decide, by decide, rfl, by decide, by decide, ⟨_, c241, .inl rfl⟩, by kernel_rfl⟩⟩
theorem c242 : (Tryz.f101.body.map fun c => compC (E.opt ⟨[], [], [], [], [], [], [], false⟩) Tryz.f101.ntmps [0, 1, 4] c) = some PI.Ct.f_compare_equal_1.code := by kernel_rfl
theorem o242 (tabs : List (Nat × Nat × Value)) (rows : List (Nat × TypeId × Nat)) (errT : Nat) : FnS E (N0 tabs rows errT) 242 PI.Ct.f_compare_equal_1 := ⟨rfl, rfl, .inl ⟨rfl, rfl, Tryz.f101, [0, 1, 4], Tryz.func101, by decide, by decide, by decide, rfl, by decide, by decide, ⟨_, c242, .inl rfl⟩, by kernel_rfl⟩⟩
theorem c243 : (Tryz.f102.body.map fun c => compC (E.opt ⟨[], [], [], [], [], [], [], false⟩) Tryz.f102.ntmps [0, 1, 4, 5, 12, 13] c) = some PI.Ct.f_slices_Equal_api_Cell.code := by kernel_rfl
theorem o243 (tabs : List (Nat × Nat × Value)) (rows : List (Nat × TypeId × Nat)) (errT : Nat) : FnS E (N0 tabs rows errT) 243 PI.Ct.f_slices_Equal_api_Cell := ⟨rfl, rfl, .inl ⟨rfl, rfl, Tryz.f102, [0, 1, 4, 5, 12, 13], Tryz.func102, by decide, by decide, by decide, rfl, by decide, by decide, ⟨_, c243, .inl rfl⟩, by kernel_rfl⟩⟩
theorem c245 : (Tryz.f147.body.map fun c => compC (E.opt ⟨[], [], [], [], [], [], [], false⟩) Tryz.f147.ntmps [0, 1, 4, 5, 7, 8] c) = some PI.Ct.f_slices_Index_string.code := by kernel_rfl
theorem o245 (tabs : List (Nat × Nat × Value)) (rows : List (Nat × TypeId × Nat)) (errT : Nat) : FnS E (N0 tabs rows errT) 245 PI.Ct.f_slices_Index_string := ⟨rfl, rfl, .inl ⟨rfl, rfl, Tryz.f147, [0, 1, 4, 5, 7, 8], Tryz.func147, by decide, by decide, by decide, rfl, by decide, by decide, ⟨_, c245, .inl rfl⟩, by kernel_rfl⟩⟩
theorem c246 : (Tryz.f96.body.map fun c => compC (E.opt ⟨[], [], [], [], [], [], [], false⟩) Tryz.f96.ntmps [0, 2] c) = some PI.Ct.f_slices_Clone_api_On.code := by kernel_rfl
theorem o246 (tabs : List (Nat × Nat × Value)) (rows : List (Nat × TypeId × Nat)) (errT : Nat) : FnS E (N0 tabs rows errT) 246 PI.Ct.f_slices_Clone_api_On := ⟨rfl, rfl, .inl ⟨rfl, rfl, Tryz.f96, [0, 2], Tryz.func96, by decide, by decide, by decide, rfl, by decide, by decide, ⟨_, c246, .inl rfl⟩, by kernel_rfl⟩⟩
theorem c247 : (Tryz.f80.body.map fun c => compC (E.opt ⟨[], [], [], [], [], [], [], false⟩) Tryz.f80.ntmps [0, 1, 2, 4, 5, 6] c) = some PI.Ct.f_ref06_Weigh.code := by kernel_rfl
theorem o247 (tabs : List (Nat × Nat × Value)) (rows : List (Nat × TypeId × Nat)) (errT : Nat) : FnS E (N0 tabs rows errT) 247 PI.Ct.f_ref06_Weigh := ⟨rfl, rfl, .inl ⟨rfl, rfl, Tryz.f80, [0, 1, 2, 4, 5, 6], Tryz.func80, by decide, by decide, by decide, rfl, by decide, by decide, ⟨_, c247, .inl rfl⟩, by kernel_rfl⟩⟩
theorem c248 : (Tryz.f81.body.map fun c => compC (E.opt ⟨[], [], [], [], [], [], [], false⟩) Tryz.f81.ntmps [0, 1, 4, 5, 6] c) = some PI.Ct.f_ref10_weighTrans.code := by kernel_rfl
theorem o248 (tabs : List (Nat × Nat × Value)) (rows : List (Nat × TypeId × Nat)) (errT : Nat) : FnS E (N0 tabs rows errT) 248 PI.Ct.f_ref10_weighTrans := ⟨rfl, rfl, .inl ⟨rfl, rfl, Tryz.f81, [0, 1, 4, 5, 6], Tryz.func81, by decide, by decide, by decide, rfl, by decide, by decide, ⟨_, c248, .inl rfl⟩, by kernel_rfl⟩⟩
theorem c300 : (Tryz.f5.body.map fun c => compC (E.opt ⟨[], [], [], [], [], [], [], false⟩) Tryz.f5.ntmps [0, 1, 3, 4, 5, 6, 7, 8, 9, 11, 12, 13, 14, 15, 16, 17] c) = some PI.Ct.f_law44_CompareTexts.code := by kernel_rfl
theorem o300 (tabs : List (Nat × Nat × Value)) (rows : List (Nat × TypeId × Nat)) (errT : Nat) : FnS E (N0 tabs rows errT) 300 PI.Ct.f_law44_CompareTexts := ⟨rfl, rfl, .inl ⟨rfl, rfl, Tryz.f5, [0, 1, 3, 4, 5, 6, 7, 8, 9, 11, 12, 13, 14, 15, 16, 17], Tryz.func5, by decide, by decide, by decide, rfl, by decide, by decide, ⟨_, c300, .inl rfl⟩, by kernel_rfl⟩⟩
theorem c301 : (Tryz.f18.body.map fun c => compC (E.opt ⟨[2, 3, 6, 26], [59, 60], [], [], [59], [], [], false⟩) Tryz.f18.ntmps [0, 1, 2, 3, 4, 5, 6, 7, 8, 10, 11, 26, 28, 29, 30, 42, 43, 44, 57, 58] c) = some PI.Ct.f_scope_Check.code := by kernel_rfl
theorem o301 (tabs : List (Nat × Nat × Value)) (rows : List (Nat × TypeId × Nat)) (errT : Nat) : FnS E (N0 tabs rows errT) 301 PI.Ct.f_scope_Check := ⟨rfl, rfl, .inl ⟨rfl, rfl, Tryz.f18, [0, 1, 2, 3, 4, 5, 6, 7, 8, 10, 11, 26, 28, 29, 30, 42, 43, 44, 57, 58], Tryz.func18, by decide, by decide, by decide, rfl, by decide, by decide, ⟨_, c301, .inl rfl⟩, by kernel_rfl⟩⟩
theorem c302 : (Tryz.f57.body.map fun c => compC (E.opt ⟨[2, 3, 4, 14], [85, 86, 87], [], [], [85, 86], [], [], false⟩) Tryz.f57.ntmps [0, 1, 2, 3, 4, 6, 7, 8, 14, 28, 29, 30, 39, 40, 41] c) = some PI.Ct.f_shape_Check.code := by kernel_rfl
theorem o302 (tabs : List (Nat × Nat × Value)) (rows : List (Nat × TypeId × Nat)) (errT : Nat) : FnS E (N0 tabs rows errT) 302 PI.Ct.f_shape_Check := ⟨rfl, rfl, .inl ⟨rfl, rfl, Tryz.f57, [0, 1, 2, 3, 4, 6, 7, 8, 14, 28, 29, 30, 39, 40, 41], Tryz.func57, by decide, by decide, by decide, rfl, by decide, by decide, ⟨_, c302, .inl rfl⟩, by kernel_rfl⟩⟩
theorem c304 : (Tryz.f59.body.map fun c => compC (E.opt ⟨[0], [88], [], [], [88], [], [], false⟩) Tryz.f59.ntmps [0, 1, 2, 4, 7] c) = some PI.Ct.f_scope_look_add.code := by kernel_rfl
theorem o304 (tabs : List (Nat × Nat × Value)) (rows : List (Nat × TypeId × Nat)) (errT : Nat) : FnS E (N0 tabs rows errT) 304 PI.Ct.f_scope_look_add := ⟨rfl, rfl, .inl ⟨rfl, rfl, Tryz.f59, [0, 1, 2, 4, 7], Tryz.func59, by decide, by decide, by decide, rfl, by decide, by decide, ⟨_, c304, .inl rfl⟩, by kernel_rfl⟩⟩
theorem c306 : (Tryz.f85.body.map fun c => compC (E.opt ⟨[0], [], [], [], [], [], [], false⟩) Tryz.f85.ntmps [0, 1, 2] c) = some PI.Ct.f_shape_look_must.code := by kernel_rfl
theorem o306 (tabs : List (Nat × Nat × Value)) (rows : List (Nat × TypeId × Nat)) (errT : Nat) : FnS E (N0 tabs rows errT) 306 PI.Ct.f_shape_look_must := ⟨rfl, rfl, .inl ⟨rfl, rfl, Tryz.f85, [0, 1, 2], Tryz.func85, by decide, by decide, by decide, rfl, by decide, by decide, ⟨_, c306, .inl rfl⟩, by kernel_rfl⟩⟩
theorem c307 : (Tryz.f86.body.map fun c => compC (E.opt ⟨[0], [85, 121], [], [], [85, 121], [], [], false⟩) Tryz.f86.ntmps [0, 1, 3, 5, 23, 24, 25] c) = some PI.Ct.f_shape_look_enum.code := by kernel_rfl
theorem o307 (tabs : List (Nat × Nat × Value)) (rows : List (Nat × TypeId × Nat)) (errT : Nat) : FnS E (N0 tabs rows errT) 307 PI.Ct.f_shape_look_enum := ⟨rfl, rfl, .inl ⟨rfl, rfl, Tryz.f86, [0, 1, 3, 5, 23, 24, 25], Tryz.func86, by decide, by decide, by decide, rfl, by decide, by decide, ⟨_, c307, .inl rfl⟩, by kernel_rfl⟩⟩
theorem c308 : (Tryz.f88.body.map fun c => compC (E.opt ⟨[0], [], [], [], [], [], [], false⟩) Tryz.f88.ntmps [0, 1, 2] c) = some PI.Ct.f_scope_look_must.code := by kernel_rfl
theorem o308 (tabs : List (Nat × Nat × Value)) (rows : List (Nat × TypeId × Nat)) (errT : Nat) : FnS E (N0 tabs rows errT) 308 PI.Ct.f_scope_look_must := ⟨rfl, rfl, .inl ⟨rfl, rfl, Tryz.f88, [0, 1, 2], Tryz.func88, by decide, by decide, by decide, rfl, by decide, by decide, ⟨_, c308, .inl rfl⟩, by kernel_rfl⟩⟩
theorem c309 : (Tryz.f121.body.map fun c => compC (E.opt ⟨[0], [85], [], [], [85], [], [], false⟩) Tryz.f121.ntmps [0, 1] c) = some PI.Ct.f_shape_look_ident.code := by kernel_rfl
theorem o309 (tabs : List (Nat × Nat × Value)) (rows : List (Nat × TypeId × Nat)) (errT : Nat) : FnS E (N0 tabs rows errT) 309 PI.Ct.f_shape_look_ident := ⟨rfl, rfl, .inl ⟨rfl, rfl, Tryz.f121, [0, 1], Tryz.func121, by decide, by decide, by decide, rfl, by decide, by decide, ⟨_, c309, .inl rfl⟩, by kernel_rfl⟩⟩
theorem libOk (tabs : List (Nat × Nat × Value)) (rows : List (Nat × TypeId × Nat)) (errT : Nat) (h23 : PrimOK (N0 tabs rows errT) Tryz.prog 23 pBString) (h34 : PrimOK (N0 tabs rows errT) Tryz.prog 34 pWriteString) (h35 : PrimOK (N0 tabs rows errT) Tryz.prog 35 pJoin) (h47 : PrimOK (N0 tabs rows errT) Tryz.prog 47 pItoa) (h54 : PrimOK (N0 tabs rows errT) Tryz.prog 54 pAtoi) (h59 : PrimOK (N0 tabs rows errT) Tryz.prog 59 pIndexByte) (h303 : DfrOK (N0 tabs rows errT) Tryz.prog 303 (pRec 1)) (h305 : DfrOK (N0 tabs rows errT) Tryz.prog 305 (pRec 2)) : ∀ k pf, PI.Ct.LX k = some pf → FnS E (N0 tabs rows errT) k pf := by
  intro k pf h
  unfold PI.Ct.LX at h
  split at h
  · simp only [Option.some.injEq] at h; subst h; exact o3 tabs rows errT
  · simp only [Option.some.injEq] at h; subst h; exact o5 tabs rows errT
  · simp only [Option.some.injEq] at h; subst h; exact o6 tabs rows errT
  · simp only [Option.some.injEq] at h; subst h; exact o7 tabs rows errT
  · simp only [Option.some.injEq] at h; subst h; exact o8 tabs rows errT
  · simp only [Option.some.injEq] at h; subst h; exact o9 tabs rows errT
  · simp only [Option.some.injEq] at h; subst h; exact o10 tabs rows errT
  · simp only [Option.some.injEq] at h; subst h; exact o11 tabs rows errT
  · simp only [Option.some.injEq] at h; subst h; exact o13 tabs rows errT
  · simp only [Option.some.injEq] at h; subst h; exact o15 tabs rows errT
  · simp only [Option.some.injEq] at h; subst h; exact o18 tabs rows errT
  · simp only [Option.some.injEq] at h; subst h; exact o19 tabs rows errT
  · simp only [Option.some.injEq] at h; subst h; exact o20 tabs rows errT
  · simp only [Option.some.injEq] at h; subst h; exact o21 tabs rows errT
  · simp only [Option.some.injEq] at h; subst h; exact o22 tabs rows errT
  · simp only [Option.some.injEq] at h; subst h; exact ⟨rfl, rfl, .inr (.inl ⟨_, Tryz.f31, rfl, rfl, Tryz.func31, by decide, by kernel_rfl, h23⟩)⟩
  · simp only [Option.some.injEq] at h; subst h; exact o24 tabs rows errT
  · simp only [Option.some.injEq] at h; subst h; exact o25 tabs rows errT
  · simp only [Option.some.injEq] at h; subst h; exact o26 tabs rows errT
  · simp only [Option.some.injEq] at h; subst h; exact o27 tabs rows errT
  · simp only [Option.some.injEq] at h; subst h; exact o28 tabs rows errT
  · simp only [Option.some.injEq] at h; subst h; exact o29 tabs rows errT
  · simp only [Option.some.injEq] at h; subst h; exact o30 tabs rows errT
  · simp only [Option.some.injEq] at h; subst h; exact o32 tabs rows errT
  · simp only [Option.some.injEq] at h; subst h; exact o33 tabs rows errT
  · simp only [Option.some.injEq] at h; subst h; exact ⟨rfl, rfl, .inr (.inl ⟨_, Tryz.f28, rfl, rfl, Tryz.func28, by decide, by kernel_rfl, h34⟩)⟩
  · simp only [Option.some.injEq] at h; subst h; exact ⟨rfl, rfl, .inr (.inl ⟨_, Tryz.f29, rfl, rfl, Tryz.func29, by decide, by kernel_rfl, h35⟩)⟩
  · simp only [Option.some.injEq] at h; subst h; exact o36 tabs rows errT
  · simp only [Option.some.injEq] at h; subst h; exact o37 tabs rows errT
  · simp only [Option.some.injEq] at h; subst h; exact o38 tabs rows errT
  · simp only [Option.some.injEq] at h; subst h; exact o39 tabs rows errT
  · simp only [Option.some.injEq] at h; subst h; exact o40 tabs rows errT
  · simp only [Option.some.injEq] at h; subst h; exact o41 tabs rows errT
  · simp only [Option.some.injEq] at h; subst h; exact o42 tabs rows errT
  · simp only [Option.some.injEq] at h; subst h; exact o43 tabs rows errT
  · simp only [Option.some.injEq] at h; subst h; exact o44 tabs rows errT
  · simp only [Option.some.injEq] at h; subst h; exact o45 tabs rows errT
  · simp only [Option.some.injEq] at h; subst h; exact o46 tabs rows errT
  · simp only [Option.some.injEq] at h; subst h; exact ⟨rfl, rfl, .inr (.inl ⟨_, Tryz.f107, rfl, rfl, Tryz.func107, by decide, by kernel_rfl, h47⟩)⟩
  · simp only [Option.some.injEq] at h; subst h; exact o48 tabs rows errT
  · simp only [Option.some.injEq] at h; subst h; exact o49 tabs rows errT
  · simp only [Option.some.injEq] at h; subst h; exact o50 tabs rows errT
  · simp only [Option.some.injEq] at h; subst h; exact o51 tabs rows errT
  · simp only [Option.some.injEq] at h; subst h; exact o52 tabs rows errT
  · simp only [Option.some.injEq] at h; subst h; exact o53 tabs rows errT
  · simp only [Option.some.injEq] at h; subst h; exact ⟨rfl, rfl, .inr (.inl ⟨_, Tryz.f118, rfl, rfl, Tryz.func118, by decide, by kernel_rfl, h54⟩)⟩
  · simp only [Option.some.injEq] at h; subst h; exact o55 tabs rows errT
  · simp only [Option.some.injEq] at h; subst h; exact o56 tabs rows errT
  · simp only [Option.some.injEq] at h; subst h; exact o57 tabs rows errT
  · simp only [Option.some.injEq] at h; subst h; exact o58 tabs rows errT
  · simp only [Option.some.injEq] at h; subst h; exact ⟨rfl, rfl, .inr (.inl ⟨_, Tryz.f141, rfl, rfl, Tryz.func141, by decide, by kernel_rfl, h59⟩)⟩
  · simp only [Option.some.injEq] at h; subst h; exact o60 tabs rows errT
  · simp only [Option.some.injEq] at h; subst h; exact o61 tabs rows errT
  · simp only [Option.some.injEq] at h; subst h; exact o62 tabs rows errT
  · simp only [Option.some.injEq] at h; subst h; exact o63 tabs rows errT
  · simp only [Option.some.injEq] at h; subst h; exact o64 tabs rows errT
  · simp only [Option.some.injEq] at h; subst h; exact o65 tabs rows errT
  · simp only [Option.some.injEq] at h; subst h; exact o66 tabs rows errT
  · simp only [Option.some.injEq] at h; subst h; exact o67 tabs rows errT
  · simp only [Option.some.injEq] at h; subst h; exact o68 tabs rows errT
  · simp only [Option.some.injEq] at h; subst h; exact o69 tabs rows errT
  · simp only [Option.some.injEq] at h; subst h; exact o70 tabs rows errT
  · simp only [Option.some.injEq] at h; subst h; exact o71 tabs rows errT
  · simp only [Option.some.injEq] at h; subst h; exact o72 tabs rows errT
  · simp only [Option.some.injEq] at h; subst h; exact o73 tabs rows errT
  · simp only [Option.some.injEq] at h; subst h; exact o74 tabs rows errT
  · simp only [Option.some.injEq] at h; subst h; exact o75 tabs rows errT
  · simp only [Option.some.injEq] at h; subst h; exact o76 tabs rows errT
  · simp only [Option.some.injEq] at h; subst h; exact o77 tabs rows errT
  · simp only [Option.some.injEq] at h; subst h; exact o78 tabs rows errT
  · simp only [Option.some.injEq] at h; subst h; exact o79 tabs rows errT
  · simp only [Option.some.injEq] at h; subst h; exact o80 tabs rows errT
  · simp only [Option.some.injEq] at h; subst h; exact o81 tabs rows errT
  · simp only [Option.some.injEq] at h; subst h; exact o82 tabs rows errT
  · simp only [Option.some.injEq] at h; subst h; exact o204 tabs rows errT
  · simp only [Option.some.injEq] at h; subst h; exact o205 tabs rows errT
  · simp only [Option.some.injEq] at h; subst h; exact o206 tabs rows errT
  · simp only [Option.some.injEq] at h; subst h; exact o209 tabs rows errT
  · simp only [Option.some.injEq] at h; subst h; exact o211 tabs rows errT
  · simp only [Option.some.injEq] at h; subst h; exact o213 tabs rows errT
  · simp only [Option.some.injEq] at h; subst h; exact o215 tabs rows errT
  · simp only [Option.some.injEq] at h; subst h; exact o217 tabs rows errT
  · simp only [Option.some.injEq] at h; subst h; exact o220 tabs rows errT
  · simp only [Option.some.injEq] at h; subst h; exact o221 tabs rows errT
  · simp only [Option.some.injEq] at h; subst h; exact o222 tabs rows errT
  · simp only [Option.some.injEq] at h; subst h; exact o223 tabs rows errT
  · simp only [Option.some.injEq] at h; subst h; exact o225 tabs rows errT
  · simp only [Option.some.injEq] at h; subst h; exact o226 tabs rows errT
  · simp only [Option.some.injEq] at h; subst h; exact o229 tabs rows errT
  · simp only [Option.some.injEq] at h; subst h; exact o231 tabs rows errT
  · simp only [Option.some.injEq] at h; subst h; exact o232 tabs rows errT
  · simp only [Option.some.injEq] at h; subst h; exact o234 tabs rows errT
  · simp only [Option.some.injEq] at h; subst h; exact o235 tabs rows errT
  · simp only [Option.some.injEq] at h; subst h; exact o236 tabs rows errT
  · simp only [Option.some.injEq] at h; subst h; exact o237 tabs rows errT
  · simp only [Option.some.injEq] at h; subst h; exact o238 tabs rows errT
  · simp only [Option.some.injEq] at h; subst h; exact o239 tabs rows errT
  · simp only [Option.some.injEq] at h; subst h; exact o240 tabs rows errT
  · simp only [Option.some.injEq] at h; subst h; exact o241 tabs rows errT
  · simp only [Option.some.injEq] at h; subst h; exact o242 tabs rows errT
  · simp only [Option.some.injEq] at h; subst h; exact o243 tabs rows errT
  · simp only [Option.some.injEq] at h; subst h; exact o245 tabs rows errT
  · simp only [Option.some.injEq] at h; subst h; exact o246 tabs rows errT
  · simp only [Option.some.injEq] at h; subst h; exact o247 tabs rows errT
  · simp only [Option.some.injEq] at h; subst h; exact o248 tabs rows errT
  · simp only [Option.some.injEq] at h; subst h; exact o300 tabs rows errT
  · simp only [Option.some.injEq] at h; subst h; exact o301 tabs rows errT
  · simp only [Option.some.injEq] at h; subst h; exact o302 tabs rows errT
  · simp only [Option.some.injEq] at h; subst h; exact ⟨rfl, rfl, .inr (.inr ⟨_, Tryz.f58, rfl, rfl, rfl, Tryz.func58, by decide, by kernel_rfl, h303⟩)⟩
  · simp only [Option.some.injEq] at h; subst h; exact o304 tabs rows errT
  · simp only [Option.some.injEq] at h; subst h; exact ⟨rfl, rfl, .inr (.inr ⟨_, Tryz.f84, rfl, rfl, rfl, Tryz.func84, by decide, by kernel_rfl, h305⟩)⟩
  · simp only [Option.some.injEq] at h; subst h; exact o306 tabs rows errT
  · simp only [Option.some.injEq] at h; subst h; exact o307 tabs rows errT
  · simp only [Option.some.injEq] at h; subst h; exact o308 tabs rows errT
  · simp only [Option.some.injEq] at h; subst h; exact o309 tabs rows errT
  · simp at h
end Go.Proofs.YtegahghjancjpaaGreatDoor.Pi
