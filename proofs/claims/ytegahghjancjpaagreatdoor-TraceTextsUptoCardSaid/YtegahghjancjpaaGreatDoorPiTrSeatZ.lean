/-
  The functions stand in the translated program. Written by program (mk.py).
-/
import Derived.Test.YtegahghjancjpaaGreatDoorChecked
import Derived.Test.YtegahghjancjpaaGreatDoorPiLaw2
import Derived.Test.YtegahghjancjpaaGreatDoorPiTrCode
import Derived.KernelRfl
set_option maxRecDepth 100000
namespace Go.Proofs.YtegahghjancjpaaGreatDoor.Pi
open Go PI

def tab : List Nat := [1000000, 1000000, 1000000, 6, 1000000, 7, 8, 10, 12, 14, 44, 22, 1000000, 23, 1000000, 24, 1000000, 1000000, 21, 25, 26, 27, 30, 31, 35, 36, 39, 40, 41, 42, 43, 1000000, 75, 66, 28, 29, 69, 73, 74, 76, 77, 78, 114, 115, 116, 105, 106, 107, 109, 110, 111, 112, 113, 117, 118, 139, 140, 136, 138, 141, 143, 144, 162, 3, 4, 9, 11, 13, 32, 33, 34, 37, 38, 45, 46, 47, 48, 70, 71, 72, 79, 108, 119]
noncomputable def E : Env := { P := Tryz.prog, inv := fun f => idxIn f tab 0, tinv := fun _ => none, bT := (some 69) }
def N0 (tabs : List (Nat × Nat × Value)) (rows : List (Nat × TypeId × Nat)) (errT : Nat) : Nm := { fn := fun k => tab.getD k 0, ty := fun t => if t = 0 then errT else t, tabs := tabs, rows := rows, bT := 69, bE := 5 }
theorem envOk (tabs : List (Nat × Nat × Value)) (rows : List (Nat × TypeId × Nat)) (errT : Nat) : EnvOk E (N0 tabs rows errT) := ⟨fun f k h => by
  obtain ⟨_, h2⟩ := idxIn_some (show idxIn f tab 0 = some k from h)
  show tab.getD k 0 = f
  rw [List.getD_eq_getElem?_getD, show tab[k]? = some f by simpa using h2]; rfl, fun t h => by
  have : t = 69 := by simpa [E] using h.symm
  subst this
  exact ⟨rfl, by
    have h : ((Tryz.prog.info? 69).bind fun i => i.zero) = some (.agg #[.pointer none, .slice none 0 0]) := by kernel_rfl
    simp only [Option.bind_eq_some_iff] at h
    exact h⟩⟩
theorem mixed : Tryz.prog.follows .mixedOrders = true := by kernel_rfl

theorem c3 : (Tryz.f6.body.map fun c => compC (E.opt ⟨[], [], [], []⟩) Tryz.f6.ntmps [0, 1, 2, 3, 4] c) = some PI.Tr.f_law43_light.code := by kernel_rfl
theorem o3 (tabs : List (Nat × Nat × Value)) (rows : List (Nat × TypeId × Nat)) (errT : Nat) : FnS E (N0 tabs rows errT) 3 PI.Tr.f_law43_light := .inl ⟨rfl, Tryz.f6, [0, 1, 2, 3, 4], Tryz.func6, by decide, by decide, by decide, rfl, by decide, by decide, ⟨_, c3⟩, by kernel_rfl⟩
theorem c5 : (Tryz.f7.body.map fun c => compC (E.opt ⟨[], [], [], []⟩) Tryz.f7.ntmps [0, 1, 2, 3, 4, 5, 6, 7, 8, 9, 10, 11, 12] c) = some PI.Tr.f_law43_awake.code := by kernel_rfl
theorem o5 (tabs : List (Nat × Nat × Value)) (rows : List (Nat × TypeId × Nat)) (errT : Nat) : FnS E (N0 tabs rows errT) 5 PI.Tr.f_law43_awake := .inl ⟨rfl, Tryz.f7, [0, 1, 2, 3, 4, 5, 6, 7, 8, 9, 10, 11, 12], Tryz.func7, by decide, by decide, by decide, rfl, by decide, by decide, ⟨_, c5⟩, by kernel_rfl⟩
theorem c6 : (Tryz.f8.body.map fun c => compC (E.opt ⟨[13], [31], [51, 54, 84], []⟩) Tryz.f8.ntmps [0, 1, 3, 4, 5, 6, 7, 8, 10, 11, 13, 14, 16, 17, 18, 19, 27, 28, 29, 58, 59, 60, 64, 65, 66] c) = some PI.Tr.f_trace_Text.code := by kernel_rfl
theorem o6 (tabs : List (Nat × Nat × Value)) (rows : List (Nat × TypeId × Nat)) (errT : Nat) : FnS E (N0 tabs rows errT) 6 PI.Tr.f_trace_Text := .inl ⟨rfl, Tryz.f8, [0, 1, 3, 4, 5, 6, 7, 8, 10, 11, 13, 14, 16, 17, 18, 19, 27, 28, 29, 58, 59, 60, 64, 65, 66], Tryz.func8, by decide, by decide, by decide, rfl, by decide, by decide, ⟨_, c6⟩, by kernel_rfl⟩
theorem c7 : (Tryz.f10.body.map fun c => compC (E.opt ⟨[], [], [], []⟩) Tryz.f10.ntmps [0, 1, 3, 4, 5, 7, 8, 9, 10, 29, 30, 31, 41, 42, 43] c) = some PI.Tr.f_trace_Check.code := by kernel_rfl
theorem o7 (tabs : List (Nat × Nat × Value)) (rows : List (Nat × TypeId × Nat)) (errT : Nat) : FnS E (N0 tabs rows errT) 7 PI.Tr.f_trace_Check := .inl ⟨rfl, Tryz.f10, [0, 1, 3, 4, 5, 7, 8, 9, 10, 29, 30, 31, 41, 42, 43], Tryz.func10, by decide, by decide, by decide, rfl, by decide, by decide, ⟨_, c7⟩, by kernel_rfl⟩
theorem c8 : (Tryz.f12.body.map fun c => compC (E.opt ⟨[7, 16], [41, 42, 43], [], [23]⟩) Tryz.f12.ntmps [0, 1, 4, 5, 6, 7, 8, 9, 10, 11, 12, 13, 16, 42] c) = some PI.Tr.f_trace_Parse.code := by kernel_rfl
theorem o8 (tabs : List (Nat × Nat × Value)) (rows : List (Nat × TypeId × Nat)) (errT : Nat) : FnS E (N0 tabs rows errT) 8 PI.Tr.f_trace_Parse := .inl ⟨rfl, Tryz.f12, [0, 1, 4, 5, 6, 7, 8, 9, 10, 11, 12, 13, 16, 42], Tryz.func12, by decide, by decide, by decide, rfl, by decide, by decide, ⟨_, c8⟩, by kernel_rfl⟩
theorem c9 : (Tryz.f14.body.map fun c => compC (E.opt ⟨[], [], [], []⟩) Tryz.f14.ntmps [0, 1, 2, 3, 4, 5, 6, 7, 8] c) = some PI.Tr.f_ref43_Same.code := by kernel_rfl
theorem o9 (tabs : List (Nat × Nat × Value)) (rows : List (Nat × TypeId × Nat)) (errT : Nat) : FnS E (N0 tabs rows errT) 9 PI.Tr.f_ref43_Same := .inl ⟨rfl, Tryz.f14, [0, 1, 2, 3, 4, 5, 6, 7, 8], Tryz.func14, by decide, by decide, by decide, rfl, by decide, by decide, ⟨_, c9⟩, by kernel_rfl⟩
theorem c10 : (Tryz.f44.body.map fun c => compC (E.opt ⟨[], [], [], []⟩) Tryz.f44.ntmps [0, 2, 3, 4, 5] c) = some PI.Tr.f_ref36_Lines.code := by kernel_rfl
theorem o10 (tabs : List (Nat × Nat × Value)) (rows : List (Nat × TypeId × Nat)) (errT : Nat) : FnS E (N0 tabs rows errT) 10 PI.Tr.f_ref36_Lines := .inl ⟨rfl, Tryz.f44, [0, 2, 3, 4, 5], Tryz.func44, by decide, by decide, by decide, rfl, by decide, by decide, ⟨_, c10⟩, by kernel_rfl⟩
theorem c11 : (Tryz.f22.body.map fun c => compC (E.opt ⟨[], [], [], []⟩) Tryz.f22.ntmps [0, 1, 2, 4, 5, 6, 7, 8, 10, 11, 13, 14, 15, 25, 26, 27] c) = some PI.Tr.f_trace_Col.code := by kernel_rfl
theorem o11 (tabs : List (Nat × Nat × Value)) (rows : List (Nat × TypeId × Nat)) (errT : Nat) : FnS E (N0 tabs rows errT) 11 PI.Tr.f_trace_Col := .inl ⟨rfl, Tryz.f22, [0, 1, 2, 4, 5, 6, 7, 8, 10, 11, 13, 14, 15, 25, 26, 27], Tryz.func22, by decide, by decide, by decide, rfl, by decide, by decide, ⟨_, c11⟩, by kernel_rfl⟩
theorem c13 : (Tryz.f23.body.map fun c => compC (E.opt ⟨[11], [], [], []⟩) Tryz.f23.ntmps [0, 1, 2, 4, 5, 6, 8, 9, 10, 11, 13, 14, 15, 16, 17, 18, 39, 40, 41, 45, 46, 47] c) = some PI.Tr.f_trace_Rows.code := by kernel_rfl
theorem o13 (tabs : List (Nat × Nat × Value)) (rows : List (Nat × TypeId × Nat)) (errT : Nat) : FnS E (N0 tabs rows errT) 13 PI.Tr.f_trace_Rows := .inl ⟨rfl, Tryz.f23, [0, 1, 2, 4, 5, 6, 8, 9, 10, 11, 13, 14, 15, 16, 17, 18, 39, 40, 41, 45, 46, 47], Tryz.func23, by decide, by decide, by decide, rfl, by decide, by decide, ⟨_, c13⟩, by kernel_rfl⟩
theorem c15 : (Tryz.f24.body.map fun c => compC (E.opt ⟨[], [], [], []⟩) Tryz.f24.ntmps [0, 1, 4, 5] c) = some PI.Tr.f_law43_cells.code := by kernel_rfl
theorem o15 (tabs : List (Nat × Nat × Value)) (rows : List (Nat × TypeId × Nat)) (errT : Nat) : FnS E (N0 tabs rows errT) 15 PI.Tr.f_law43_cells := .inl ⟨rfl, Tryz.f24, [0, 1, 4, 5], Tryz.func24, by decide, by decide, by decide, rfl, by decide, by decide, ⟨_, c15⟩, by kernel_rfl⟩
theorem c18 : (Tryz.f21.body.map fun c => compC (E.opt ⟨[], [], [], []⟩) Tryz.f21.ntmps [0, 1] c) = some PI.Tr.f_law43_sample.code := by kernel_rfl
theorem o18 (tabs : List (Nat × Nat × Value)) (rows : List (Nat × TypeId × Nat)) (errT : Nat) : FnS E (N0 tabs rows errT) 18 PI.Tr.f_law43_sample := .inl ⟨rfl, Tryz.f21, [0, 1], Tryz.func21, by decide, by decide, by decide, rfl, by decide, by decide, ⟨_, c18⟩, by kernel_rfl⟩
theorem c19 : (Tryz.f25.body.map fun c => compC (E.opt ⟨[], [], [], []⟩) Tryz.f25.ntmps [0, 1, 4, 5] c) = some PI.Tr.f_ref04_Same.code := by kernel_rfl
theorem o19 (tabs : List (Nat × Nat × Value)) (rows : List (Nat × TypeId × Nat)) (errT : Nat) : FnS E (N0 tabs rows errT) 19 PI.Tr.f_ref04_Same := .inl ⟨rfl, Tryz.f25, [0, 1, 4, 5], Tryz.func25, by decide, by decide, by decide, rfl, by decide, by decide, ⟨_, c19⟩, by kernel_rfl⟩
theorem c20 : (Tryz.f26.body.map fun c => compC (E.opt ⟨[], [], [], []⟩) Tryz.f26.ntmps [0, 1, 4, 5, 6, 7, 8] c) = some PI.Tr.f_value_Name.code := by kernel_rfl
theorem o20 (tabs : List (Nat × Nat × Value)) (rows : List (Nat × TypeId × Nat)) (errT : Nat) : FnS E (N0 tabs rows errT) 20 PI.Tr.f_value_Name := .inl ⟨rfl, Tryz.f26, [0, 1, 4, 5, 6, 7, 8], Tryz.func26, by decide, by decide, by decide, rfl, by decide, by decide, ⟨_, c20⟩, by kernel_rfl⟩
theorem c21 : (Tryz.f27.body.map fun c => compC (E.opt ⟨[1], [28], [], []⟩) Tryz.f27.ntmps [0, 1] c) = some PI.Tr.f_trace_Text_1.code := by kernel_rfl
theorem o21 (tabs : List (Nat × Nat × Value)) (rows : List (Nat × TypeId × Nat)) (errT : Nat) : FnS E (N0 tabs rows errT) 21 PI.Tr.f_trace_Text_1 := .inl ⟨rfl, Tryz.f27, [0, 1], Tryz.func27, by decide, by decide, by decide, rfl, by decide, by decide, ⟨_, c21⟩, by kernel_rfl⟩
theorem c22 : (Tryz.f30.body.map fun c => compC (E.opt ⟨[], [], [], []⟩) Tryz.f30.ntmps [0, 1, 2, 5, 6, 7, 10] c) = some PI.Tr.f_trace_word.code := by kernel_rfl
theorem o22 (tabs : List (Nat × Nat × Value)) (rows : List (Nat × TypeId × Nat)) (errT : Nat) : FnS E (N0 tabs rows errT) 22 PI.Tr.f_trace_word := .inl ⟨rfl, Tryz.f30, [0, 1, 2, 5, 6, 7, 10], Tryz.func30, by decide, by decide, by decide, rfl, by decide, by decide, ⟨_, c22⟩, by kernel_rfl⟩
theorem c24 : (Tryz.f35.body.map fun c => compC (E.opt ⟨[], [], [], []⟩) Tryz.f35.ntmps [0, 1, 4, 5, 7, 9, 11, 12, 13] c) = some PI.Tr.f_trace_columns.code := by kernel_rfl
theorem o24 (tabs : List (Nat × Nat × Value)) (rows : List (Nat × TypeId × Nat)) (errT : Nat) : FnS E (N0 tabs rows errT) 24 PI.Tr.f_trace_columns := .inl ⟨rfl, Tryz.f35, [0, 1, 4, 5, 7, 9, 11, 12, 13], Tryz.func35, by decide, by decide, by decide, rfl, by decide, by decide, ⟨_, c24⟩, by kernel_rfl⟩
theorem c25 : (Tryz.f36.body.map fun c => compC (E.opt ⟨[], [], [], []⟩) Tryz.f36.ntmps [0, 1, 2, 5, 6, 7] c) = some PI.Tr.f_trace_cell.code := by kernel_rfl
theorem o25 (tabs : List (Nat × Nat × Value)) (rows : List (Nat × TypeId × Nat)) (errT : Nat) : FnS E (N0 tabs rows errT) 25 PI.Tr.f_trace_cell := .inl ⟨rfl, Tryz.f36, [0, 1, 2, 5, 6, 7], Tryz.func36, by decide, by decide, by decide, rfl, by decide, by decide, ⟨_, c25⟩, by kernel_rfl⟩
theorem c26 : (Tryz.f39.body.map fun c => compC (E.opt ⟨[], [], [], []⟩) Tryz.f39.ntmps [0, 1, 4, 5, 6] c) = some PI.Tr.f_strings_Cut.code := by kernel_rfl
theorem o26 (tabs : List (Nat × Nat × Value)) (rows : List (Nat × TypeId × Nat)) (errT : Nat) : FnS E (N0 tabs rows errT) 26 PI.Tr.f_strings_Cut := .inl ⟨rfl, Tryz.f39, [0, 1, 4, 5, 6], Tryz.func39, by decide, by decide, by decide, rfl, by decide, by decide, ⟨_, c26⟩, by kernel_rfl⟩
theorem c27 : (Tryz.f40.body.map fun c => compC (E.opt ⟨[], [], [], []⟩) Tryz.f40.ntmps [0, 2, 3, 4, 5, 6, 10, 11] c) = some PI.Tr.f_trace_words.code := by kernel_rfl
theorem o27 (tabs : List (Nat × Nat × Value)) (rows : List (Nat × TypeId × Nat)) (errT : Nat) : FnS E (N0 tabs rows errT) 27 PI.Tr.f_trace_words := .inl ⟨rfl, Tryz.f40, [0, 2, 3, 4, 5, 6, 10, 11], Tryz.func40, by decide, by decide, by decide, rfl, by decide, by decide, ⟨_, c27⟩, by kernel_rfl⟩
theorem c28 : (Tryz.f41.body.map fun c => compC (E.opt ⟨[0], [], [], [23]⟩) Tryz.f41.ntmps [0, 1, 4, 5, 7, 12, 13, 14] c) = some PI.Tr.f_trace_parser_names.code := by kernel_rfl
theorem o28 (tabs : List (Nat × Nat × Value)) (rows : List (Nat × TypeId × Nat)) (errT : Nat) : FnS E (N0 tabs rows errT) 28 PI.Tr.f_trace_parser_names := .inl ⟨rfl, Tryz.f41, [0, 1, 4, 5, 7, 12, 13, 14], Tryz.func41, by decide, by decide, by decide, rfl, by decide, by decide, ⟨_, c28⟩, by kernel_rfl⟩
theorem c29 : (Tryz.f42.body.map fun c => compC (E.opt ⟨[0], [], [], [23]⟩) Tryz.f42.ntmps [0, 1, 4, 5, 6, 7, 8, 18, 19, 20] c) = some PI.Tr.f_trace_parser_types.code := by kernel_rfl
theorem o29 (tabs : List (Nat × Nat × Value)) (rows : List (Nat × TypeId × Nat)) (errT : Nat) : FnS E (N0 tabs rows errT) 29 PI.Tr.f_trace_parser_types := .inl ⟨rfl, Tryz.f42, [0, 1, 4, 5, 6, 7, 8, 18, 19, 20], Tryz.func42, by decide, by decide, by decide, rfl, by decide, by decide, ⟨_, c29⟩, by kernel_rfl⟩
theorem c30 : (Tryz.f43.body.map fun c => compC (E.opt ⟨[0], [], [], [23]⟩) Tryz.f43.ntmps [0, 1, 4, 5, 6, 7, 8, 9, 10, 27, 28, 29, 35] c) = some PI.Tr.f_trace_parser_row.code := by kernel_rfl
theorem o30 (tabs : List (Nat × Nat × Value)) (rows : List (Nat × TypeId × Nat)) (errT : Nat) : FnS E (N0 tabs rows errT) 30 PI.Tr.f_trace_parser_row := .inl ⟨rfl, Tryz.f43, [0, 1, 4, 5, 6, 7, 8, 9, 10, 27, 28, 29, 35], Tryz.func43, by decide, by decide, by decide, rfl, by decide, by decide, ⟨_, c30⟩, by kernel_rfl⟩
theorem c32 : (Tryz.f75.body.map fun c => compC (E.opt ⟨[], [], [], []⟩) Tryz.f75.ntmps [0, 2, 3] c) = some PI.Tr.f_ref03_Ident.code := by kernel_rfl
theorem o32 (tabs : List (Nat × Nat × Value)) (rows : List (Nat × TypeId × Nat)) (errT : Nat) : FnS E (N0 tabs rows errT) 32 PI.Tr.f_ref03_Ident := .inl ⟨rfl, Tryz.f75, [0, 2, 3], Tryz.func75, by decide, by decide, by decide, rfl, by decide, by decide, ⟨_, c32⟩, by kernel_rfl⟩
theorem c33 : (Tryz.f66.body.map fun c => compC (E.opt ⟨[], [], [], []⟩) Tryz.f66.ntmps [0, 1, 4, 5] c) = some PI.Tr.f_value_enum.code := by kernel_rfl
theorem o33 (tabs : List (Nat × Nat × Value)) (rows : List (Nat × TypeId × Nat)) (errT : Nat) : FnS E (N0 tabs rows errT) 33 PI.Tr.f_value_enum := .inl ⟨rfl, Tryz.f66, [0, 1, 4, 5], Tryz.func66, by decide, by decide, by decide, rfl, by decide, by decide, ⟨_, c33⟩, by kernel_rfl⟩
theorem c36 : (Tryz.f69.body.map fun c => compC (E.opt ⟨[], [], [], []⟩) Tryz.f69.ntmps [0, 1, 2, 6, 7] c) = some PI.Tr.f_value_Text.code := by kernel_rfl
theorem o36 (tabs : List (Nat × Nat × Value)) (rows : List (Nat × TypeId × Nat)) (errT : Nat) : FnS E (N0 tabs rows errT) 36 PI.Tr.f_value_Text := .inl ⟨rfl, Tryz.f69, [0, 1, 2, 6, 7], Tryz.func69, by decide, by decide, by decide, rfl, by decide, by decide, ⟨_, c36⟩, by kernel_rfl⟩
theorem c37 : (Tryz.f73.body.map fun c => compC (E.opt ⟨[], [], [], []⟩) Tryz.f73.ntmps [0, 2, 3, 22, 23] c) = some PI.Tr.f_lex_Ident.code := by kernel_rfl
theorem o37 (tabs : List (Nat × Nat × Value)) (rows : List (Nat × TypeId × Nat)) (errT : Nat) : FnS E (N0 tabs rows errT) 37 PI.Tr.f_lex_Ident := .inl ⟨rfl, Tryz.f73, [0, 2, 3, 22, 23], Tryz.func73, by decide, by decide, by decide, rfl, by decide, by decide, ⟨_, c37⟩, by kernel_rfl⟩
theorem c38 : (Tryz.f74.body.map fun c => compC (E.opt ⟨[], [], [], []⟩) Tryz.f74.ntmps [0, 1, 2, 6] c) = some PI.Tr.f_value_Has.code := by kernel_rfl
theorem o38 (tabs : List (Nat × Nat × Value)) (rows : List (Nat × TypeId × Nat)) (errT : Nat) : FnS E (N0 tabs rows errT) 38 PI.Tr.f_value_Has := .inl ⟨rfl, Tryz.f74, [0, 1, 2, 6], Tryz.func74, by decide, by decide, by decide, rfl, by decide, by decide, ⟨_, c38⟩, by kernel_rfl⟩
theorem c39 : (Tryz.f76.body.map fun c => compC (E.opt ⟨[], [], [], []⟩) Tryz.f76.ntmps [0, 1, 4, 5, 6, 7] c) = some PI.Tr.f_internal_stringslite_Cut.code := by kernel_rfl
theorem o39 (tabs : List (Nat × Nat × Value)) (rows : List (Nat × TypeId × Nat)) (errT : Nat) : FnS E (N0 tabs rows errT) 39 PI.Tr.f_internal_stringslite_Cut := .inl ⟨rfl, Tryz.f76, [0, 1, 4, 5, 6, 7], Tryz.func76, by decide, by decide, by decide, rfl, by decide, by decide, ⟨_, c39⟩, by kernel_rfl⟩
theorem c40 : (Tryz.f77.body.map fun c => compC (E.opt ⟨[], [], [], []⟩) Tryz.f77.ntmps [0, 1, 4, 5, 6, 7, 8, 13, 14, 15] c) = some PI.Tr.f_value_Type.code := by kernel_rfl
theorem o40 (tabs : List (Nat × Nat × Value)) (rows : List (Nat × TypeId × Nat)) (errT : Nat) : FnS E (N0 tabs rows errT) 40 PI.Tr.f_value_Type := .inl ⟨rfl, Tryz.f77, [0, 1, 4, 5, 6, 7, 8, 13, 14, 15], Tryz.func77, by decide, by decide, by decide, rfl, by decide, by decide, ⟨_, c40⟩, by kernel_rfl⟩
theorem c41 : (Tryz.f78.body.map fun c => compC (E.opt ⟨[], [118], [], []⟩) Tryz.f78.ntmps [0, 1, 2, 6, 7, 8, 9, 10, 11, 12, 42, 43] c) = some PI.Tr.f_value_Parse.code := by kernel_rfl
theorem o41 (tabs : List (Nat × Nat × Value)) (rows : List (Nat × TypeId × Nat)) (errT : Nat) : FnS E (N0 tabs rows errT) 41 PI.Tr.f_value_Parse := .inl ⟨rfl, Tryz.f78, [0, 1, 2, 6, 7, 8, 9, 10, 11, 12, 42, 43], Tryz.func78, by decide, by decide, by decide, rfl, by decide, by decide, ⟨_, c41⟩, by kernel_rfl⟩
theorem c42 : (Tryz.f114.body.map fun c => compC (E.opt ⟨[], [], [], []⟩) Tryz.f114.ntmps [0, 2] c) = some PI.Tr.f_ref03_Letter.code := by kernel_rfl
theorem o42 (tabs : List (Nat × Nat × Value)) (rows : List (Nat × TypeId × Nat)) (errT : Nat) : FnS E (N0 tabs rows errT) 42 PI.Tr.f_ref03_Letter := .inl ⟨rfl, Tryz.f114, [0, 2], Tryz.func114, by decide, by decide, by decide, rfl, by decide, by decide, ⟨_, c42⟩, by kernel_rfl⟩
theorem c43 : (Tryz.f115.body.map fun c => compC (E.opt ⟨[], [], [], []⟩) Tryz.f115.ntmps [0, 2] c) = some PI.Tr.f_ref03_inner.code := by kernel_rfl
theorem o43 (tabs : List (Nat × Nat × Value)) (rows : List (Nat × TypeId × Nat)) (errT : Nat) : FnS E (N0 tabs rows errT) 43 PI.Tr.f_ref03_inner := .inl ⟨rfl, Tryz.f115, [0, 2], Tryz.func115, by decide, by decide, by decide, rfl, by decide, by decide, ⟨_, c43⟩, by kernel_rfl⟩
theorem c44 : (Tryz.f116.body.map fun c => compC (E.opt ⟨[], [], [], []⟩) Tryz.f116.ntmps [0, 2, 3, 4] c) = some PI.Tr.f_ref03_Keyword.code := by kernel_rfl
theorem o44 (tabs : List (Nat × Nat × Value)) (rows : List (Nat × TypeId × Nat)) (errT : Nat) : FnS E (N0 tabs rows errT) 44 PI.Tr.f_ref03_Keyword := .inl ⟨rfl, Tryz.f116, [0, 2, 3, 4], Tryz.func116, by decide, by decide, by decide, rfl, by decide, by decide, ⟨_, c44⟩, by kernel_rfl⟩
theorem c45 : (Tryz.f105.body.map fun c => compC (E.opt ⟨[], [], [], []⟩) Tryz.f105.ntmps [0, 1, 4, 6] c) = some PI.Tr.f_value_valid.code := by kernel_rfl
theorem o45 (tabs : List (Nat × Nat × Value)) (rows : List (Nat × TypeId × Nat)) (errT : Nat) : FnS E (N0 tabs rows errT) 45 PI.Tr.f_value_valid := .inl ⟨rfl, Tryz.f105, [0, 1, 4, 6], Tryz.func105, by decide, by decide, by decide, rfl, by decide, by decide, ⟨_, c45⟩, by kernel_rfl⟩
theorem c46 : (Tryz.f106.body.map fun c => compC (E.opt ⟨[], [], [], []⟩) Tryz.f106.ntmps [0, 2] c) = some PI.Tr.f_strconv_FormatBool.code := by kernel_rfl
theorem o46 (tabs : List (Nat × Nat × Value)) (rows : List (Nat × TypeId × Nat)) (errT : Nat) : FnS E (N0 tabs rows errT) 46 PI.Tr.f_strconv_FormatBool := .inl ⟨rfl, Tryz.f106, [0, 2], Tryz.func106, by decide, by decide, by decide, rfl, by decide, by decide, ⟨_, c46⟩, by kernel_rfl⟩
theorem c48 : (Tryz.f109.body.map fun c => compC (E.opt ⟨[], [], [], []⟩) Tryz.f109.ntmps [0, 2] c) = some PI.Tr.f_lex_letter.code := by kernel_rfl
theorem o48 (tabs : List (Nat × Nat × Value)) (rows : List (Nat × TypeId × Nat)) (errT : Nat) : FnS E (N0 tabs rows errT) 48 PI.Tr.f_lex_letter := .inl ⟨rfl, Tryz.f109, [0, 2], Tryz.func109, by decide, by decide, by decide, rfl, by decide, by decide, ⟨_, c48⟩, by kernel_rfl⟩
theorem c49 : (Tryz.f110.body.map fun c => compC (E.opt ⟨[], [], [], []⟩) Tryz.f110.ntmps [0, 2, 3, 4] c) = some PI.Tr.f_lex_Keyword.code := by kernel_rfl
theorem o49 (tabs : List (Nat × Nat × Value)) (rows : List (Nat × TypeId × Nat)) (errT : Nat) : FnS E (N0 tabs rows errT) 49 PI.Tr.f_lex_Keyword := .inl ⟨rfl, Tryz.f110, [0, 2, 3, 4], Tryz.func110, by decide, by decide, by decide, rfl, by decide, by decide, ⟨_, c49⟩, by kernel_rfl⟩
theorem c50 : (Tryz.f111.body.map fun c => compC (E.opt ⟨[], [], [], []⟩) Tryz.f111.ntmps [0, 2] c) = some PI.Tr.f_lex_inner.code := by kernel_rfl
theorem o50 (tabs : List (Nat × Nat × Value)) (rows : List (Nat × TypeId × Nat)) (errT : Nat) : FnS E (N0 tabs rows errT) 50 PI.Tr.f_lex_inner := .inl ⟨rfl, Tryz.f111, [0, 2], Tryz.func111, by decide, by decide, by decide, rfl, by decide, by decide, ⟨_, c50⟩, by kernel_rfl⟩
theorem c51 : (Tryz.f112.body.map fun c => compC (E.opt ⟨[], [], [], []⟩) Tryz.f112.ntmps [0, 2] c) = some PI.Tr.f_word_In.code := by kernel_rfl
theorem o51 (tabs : List (Nat × Nat × Value)) (rows : List (Nat × TypeId × Nat)) (errT : Nat) : FnS E (N0 tabs rows errT) 51 PI.Tr.f_word_In := .inl ⟨rfl, Tryz.f112, [0, 2], Tryz.func112, by decide, by decide, by decide, rfl, by decide, by decide, ⟨_, c51⟩, by kernel_rfl⟩
theorem c52 : (Tryz.f113.body.map fun c => compC (E.opt ⟨[], [], [], []⟩) Tryz.f113.ntmps [0, 1, 4, 5, 7] c) = some PI.Tr.f_value_Size.code := by kernel_rfl
theorem o52 (tabs : List (Nat × Nat × Value)) (rows : List (Nat × TypeId × Nat)) (errT : Nat) : FnS E (N0 tabs rows errT) 52 PI.Tr.f_value_Size := .inl ⟨rfl, Tryz.f113, [0, 1, 4, 5, 7], Tryz.func113, by decide, by decide, by decide, rfl, by decide, by decide, ⟨_, c52⟩, by kernel_rfl⟩
theorem c53 : (Tryz.f117.body.map fun c => compC (E.opt ⟨[], [], [], []⟩) Tryz.f117.ntmps [0, 1, 4, 5, 6, 7, 8, 9, 10, 11, 12, 13] c) = some PI.Tr.f_internal_stringslite_Index.code := by kernel_rfl
theorem o53 (tabs : List (Nat × Nat × Value)) (rows : List (Nat × TypeId × Nat)) (errT : Nat) : FnS E (N0 tabs rows errT) 53 PI.Tr.f_internal_stringslite_Index := .inl ⟨rfl, Tryz.f117, [0, 1, 4, 5, 6, 7, 8, 9, 10, 11, 12, 13], Tryz.func117, by decide, by decide, by decide, rfl, by decide, by decide, ⟨_, c53⟩, by kernel_rfl⟩
theorem c55 : (Tryz.f139.body.map fun c => compC (E.opt ⟨[], [], [], []⟩) Tryz.f139.ntmps [0, 2] c) = some PI.Tr.f_ref03_digit.code := by kernel_rfl
theorem o55 (tabs : List (Nat × Nat × Value)) (rows : List (Nat × TypeId × Nat)) (errT : Nat) : FnS E (N0 tabs rows errT) 55 PI.Tr.f_ref03_digit := .inl ⟨rfl, Tryz.f139, [0, 2], Tryz.func139, by decide, by decide, by decide, rfl, by decide, by decide, ⟨_, c55⟩, by kernel_rfl⟩
theorem c56 : (Tryz.f140.body.map fun c => compC (E.opt ⟨[], [], [], []⟩) Tryz.f140.ntmps [0] c) = some PI.Tr.f_ref03_keywords.code := by kernel_rfl
theorem o56 (tabs : List (Nat × Nat × Value)) (rows : List (Nat × TypeId × Nat)) (errT : Nat) : FnS E (N0 tabs rows errT) 56 PI.Tr.f_ref03_keywords := .inl ⟨rfl, Tryz.f140, [0], Tryz.func140, by decide, by decide, by decide, rfl, by decide, by decide, ⟨_, c56⟩, by kernel_rfl⟩
theorem c57 : (Tryz.f136.body.map fun c => compC (E.opt ⟨[], [], [], []⟩) Tryz.f136.ntmps [0, 2] c) = some PI.Tr.f_internal_strconv_FormatBool.code := by kernel_rfl
theorem o57 (tabs : List (Nat × Nat × Value)) (rows : List (Nat × TypeId × Nat)) (errT : Nat) : FnS E (N0 tabs rows errT) 57 PI.Tr.f_internal_strconv_FormatBool := .inl ⟨rfl, Tryz.f136, [0, 2], Tryz.func136, by decide, by decide, by decide, rfl, by decide, by decide, ⟨_, c57⟩, by kernel_rfl⟩
theorem c58 : (Tryz.f138.body.map fun c => compC (E.opt ⟨[], [], [], []⟩) Tryz.f138.ntmps [0, 2] c) = some PI.Tr.f_lex_digit.code := by kernel_rfl
theorem o58 (tabs : List (Nat × Nat × Value)) (rows : List (Nat × TypeId × Nat)) (errT : Nat) : FnS E (N0 tabs rows errT) 58 PI.Tr.f_lex_digit := .inl ⟨rfl, Tryz.f138, [0, 2], Tryz.func138, by decide, by decide, by decide, rfl, by decide, by decide, ⟨_, c58⟩, by kernel_rfl⟩
theorem c60 : (Tryz.f143.body.map fun c => compC (E.opt ⟨[], [], [], []⟩) Tryz.f143.ntmps [0, 2] c) = some PI.Tr.f_internal_bytealg_Cutover.code := by kernel_rfl
theorem o60 (tabs : List (Nat × Nat × Value)) (rows : List (Nat × TypeId × Nat)) (errT : Nat) : FnS E (N0 tabs rows errT) 60 PI.Tr.f_internal_bytealg_Cutover := .inl ⟨rfl, Tryz.f143, [0, 2], Tryz.func143, by decide, by decide, by decide, rfl, by decide, by decide, ⟨_, c60⟩, by kernel_rfl⟩
theorem c61 : (Tryz.f144.body.map fun c => compC (E.opt ⟨[], [], [], []⟩) Tryz.f144.ntmps [0, 1, 4, 5, 6, 7, 8, 9, 10] c) = some PI.Tr.f_internal_bytealg_IndexRabinKarp_string.code := by kernel_rfl
theorem o61 (tabs : List (Nat × Nat × Value)) (rows : List (Nat × TypeId × Nat)) (errT : Nat) : FnS E (N0 tabs rows errT) 61 PI.Tr.f_internal_bytealg_IndexRabinKarp_string := .inl ⟨rfl, Tryz.f144, [0, 1, 4, 5, 6, 7, 8, 9, 10], Tryz.func144, by decide, by decide, by decide, rfl, by decide, by decide, ⟨_, c61⟩, by kernel_rfl⟩
theorem c62 : (Tryz.f162.body.map fun c => compC (E.opt ⟨[], [], [], []⟩) Tryz.f162.ntmps [0, 2, 3, 4, 5, 6, 7, 8] c) = some PI.Tr.f_internal_bytealg_hashStr_string.code := by kernel_rfl
theorem o62 (tabs : List (Nat × Nat × Value)) (rows : List (Nat × TypeId × Nat)) (errT : Nat) : FnS E (N0 tabs rows errT) 62 PI.Tr.f_internal_bytealg_hashStr_string := .inl ⟨rfl, Tryz.f162, [0, 2, 3, 4, 5, 6, 7, 8], Tryz.func162, by decide, by decide, by decide, rfl, by decide, by decide, ⟨_, c62⟩, by kernel_rfl⟩
theorem c63 : (Tryz.f3.body.map fun c => compC (E.opt ⟨[], [], [], []⟩) Tryz.f3.ntmps [0, 1, 3, 4, 5, 6, 7, 8] c) = some PI.Tr.f_law43_TraceTexts.code := by kernel_rfl
theorem o63 (tabs : List (Nat × Nat × Value)) (rows : List (Nat × TypeId × Nat)) (errT : Nat) : FnS E (N0 tabs rows errT) 63 PI.Tr.f_law43_TraceTexts := .inl ⟨rfl, Tryz.f3, [0, 1, 3, 4, 5, 6, 7, 8], Tryz.func3, by decide, by decide, by decide, rfl, by decide, by decide, ⟨_, c63⟩, by kernel_rfl⟩
theorem c64 : (Tryz.f4.body.map fun c => compC (E.opt ⟨[], [], [], []⟩) Tryz.f4.ntmps [0, 1, 4, 5, 6, 7, 8, 9, 10] c) = some PI.Tr.f_law43_TraceParses.code := by kernel_rfl
theorem o64 (tabs : List (Nat × Nat × Value)) (rows : List (Nat × TypeId × Nat)) (errT : Nat) : FnS E (N0 tabs rows errT) 64 PI.Tr.f_law43_TraceParses := .inl ⟨rfl, Tryz.f4, [0, 1, 4, 5, 6, 7, 8, 9, 10], Tryz.func4, by decide, by decide, by decide, rfl, by decide, by decide, ⟨_, c64⟩, by kernel_rfl⟩
theorem c65 : (Tryz.f9.body.map fun c => compC (E.opt ⟨[], [], [], []⟩) Tryz.f9.ntmps [0, 1, 3, 4, 5, 6, 7, 8, 9, 10, 12, 13, 14, 15, 16, 17, 84] c) = some PI.Tr.f_ref43_Text.code := by kernel_rfl
theorem o65 (tabs : List (Nat × Nat × Value)) (rows : List (Nat × TypeId × Nat)) (errT : Nat) : FnS E (N0 tabs rows errT) 65 PI.Tr.f_ref43_Text := .inl ⟨rfl, Tryz.f9, [0, 1, 3, 4, 5, 6, 7, 8, 9, 10, 12, 13, 14, 15, 16, 17, 84], Tryz.func9, by decide, by decide, by decide, rfl, by decide, by decide, ⟨_, c65⟩, by kernel_rfl⟩
theorem c66 : (Tryz.f11.body.map fun c => compC (E.opt ⟨[], [], [], []⟩) Tryz.f11.ntmps [0, 1, 3, 4, 5, 6, 7, 8, 9] c) = some PI.Tr.f_ref43_Check.code := by kernel_rfl
theorem o66 (tabs : List (Nat × Nat × Value)) (rows : List (Nat × TypeId × Nat)) (errT : Nat) : FnS E (N0 tabs rows errT) 66 PI.Tr.f_ref43_Check := .inl ⟨rfl, Tryz.f11, [0, 1, 3, 4, 5, 6, 7, 8, 9], Tryz.func11, by decide, by decide, by decide, rfl, by decide, by decide, ⟨_, c66⟩, by kernel_rfl⟩
theorem c67 : (Tryz.f13.body.map fun c => compC (E.opt ⟨[], [], [], []⟩) Tryz.f13.ntmps [0, 1, 4, 5, 6, 7, 8, 9, 10, 11, 12, 13, 14, 15, 16, 17, 18] c) = some PI.Tr.f_ref43_Parse.code := by kernel_rfl
theorem o67 (tabs : List (Nat × Nat × Value)) (rows : List (Nat × TypeId × Nat)) (errT : Nat) : FnS E (N0 tabs rows errT) 67 PI.Tr.f_ref43_Parse := .inl ⟨rfl, Tryz.f13, [0, 1, 4, 5, 6, 7, 8, 9, 10, 11, 12, 13, 14, 15, 16, 17, 18], Tryz.func13, by decide, by decide, by decide, rfl, by decide, by decide, ⟨_, c67⟩, by kernel_rfl⟩
theorem c68 : (Tryz.f32.body.map fun c => compC (E.opt ⟨[], [], [], []⟩) Tryz.f32.ntmps [0, 1, 4, 5] c) = some PI.Tr.f_ref05_Name.code := by kernel_rfl
theorem o68 (tabs : List (Nat × Nat × Value)) (rows : List (Nat × TypeId × Nat)) (errT : Nat) : FnS E (N0 tabs rows errT) 68 PI.Tr.f_ref05_Name := .inl ⟨rfl, Tryz.f32, [0, 1, 4, 5], Tryz.func32, by decide, by decide, by decide, rfl, by decide, by decide, ⟨_, c68⟩, by kernel_rfl⟩
theorem c69 : (Tryz.f33.body.map fun c => compC (E.opt ⟨[], [], [], []⟩) Tryz.f33.ntmps [0, 2, 3, 4] c) = some PI.Tr.f_ref43_line.code := by kernel_rfl
theorem o69 (tabs : List (Nat × Nat × Value)) (rows : List (Nat × TypeId × Nat)) (errT : Nat) : FnS E (N0 tabs rows errT) 69 PI.Tr.f_ref43_line := .inl ⟨rfl, Tryz.f33, [0, 2, 3, 4], Tryz.func33, by decide, by decide, by decide, rfl, by decide, by decide, ⟨_, c69⟩, by kernel_rfl⟩
theorem c70 : (Tryz.f34.body.map fun c => compC (E.opt ⟨[], [], [], []⟩) Tryz.f34.ntmps [0, 1, 2, 6, 7] c) = some PI.Tr.f_ref05_Text.code := by kernel_rfl
theorem o70 (tabs : List (Nat × Nat × Value)) (rows : List (Nat × TypeId × Nat)) (errT : Nat) : FnS E (N0 tabs rows errT) 70 PI.Tr.f_ref05_Text := .inl ⟨rfl, Tryz.f34, [0, 1, 2, 6, 7], Tryz.func34, by decide, by decide, by decide, rfl, by decide, by decide, ⟨_, c70⟩, by kernel_rfl⟩
theorem c71 : (Tryz.f37.body.map fun c => compC (E.opt ⟨[], [], [], []⟩) Tryz.f37.ntmps [0, 1, 2, 6, 7, 9, 10] c) = some PI.Tr.f_ref43_column.code := by kernel_rfl
theorem o71 (tabs : List (Nat × Nat × Value)) (rows : List (Nat × TypeId × Nat)) (errT : Nat) : FnS E (N0 tabs rows errT) 71 PI.Tr.f_ref43_column := .inl ⟨rfl, Tryz.f37, [0, 1, 2, 6, 7, 9, 10], Tryz.func37, by decide, by decide, by decide, rfl, by decide, by decide, ⟨_, c71⟩, by kernel_rfl⟩
theorem c72 : (Tryz.f38.body.map fun c => compC (E.opt ⟨[], [], [], []⟩) Tryz.f38.ntmps [0, 1, 2, 5, 6] c) = some PI.Tr.f_ref43_cell.code := by kernel_rfl
theorem o72 (tabs : List (Nat × Nat × Value)) (rows : List (Nat × TypeId × Nat)) (errT : Nat) : FnS E (N0 tabs rows errT) 72 PI.Tr.f_ref43_cell := .inl ⟨rfl, Tryz.f38, [0, 1, 2, 5, 6], Tryz.func38, by decide, by decide, by decide, rfl, by decide, by decide, ⟨_, c72⟩, by kernel_rfl⟩
theorem c73 : (Tryz.f45.body.map fun c => compC (E.opt ⟨[], [], [], []⟩) Tryz.f45.ntmps [0, 2, 3, 4, 5] c) = some PI.Tr.f_ref36_Words.code := by kernel_rfl
theorem o73 (tabs : List (Nat × Nat × Value)) (rows : List (Nat × TypeId × Nat)) (errT : Nat) : FnS E (N0 tabs rows errT) 73 PI.Tr.f_ref36_Words := .inl ⟨rfl, Tryz.f45, [0, 2, 3, 4, 5], Tryz.func45, by decide, by decide, by decide, rfl, by decide, by decide, ⟨_, c73⟩, by kernel_rfl⟩
theorem c74 : (Tryz.f46.body.map fun c => compC (E.opt ⟨[], [], [], []⟩) Tryz.f46.ntmps [0, 2, 3, 4] c) = some PI.Tr.f_ref43_names.code := by kernel_rfl
theorem o74 (tabs : List (Nat × Nat × Value)) (rows : List (Nat × TypeId × Nat)) (errT : Nat) : FnS E (N0 tabs rows errT) 74 PI.Tr.f_ref43_names := .inl ⟨rfl, Tryz.f46, [0, 2, 3, 4], Tryz.func46, by decide, by decide, by decide, rfl, by decide, by decide, ⟨_, c74⟩, by kernel_rfl⟩
theorem c75 : (Tryz.f47.body.map fun c => compC (E.opt ⟨[], [], [], []⟩) Tryz.f47.ntmps [0, 1, 4, 5, 6] c) = some PI.Tr.f_ref05_Type.code := by kernel_rfl
theorem o75 (tabs : List (Nat × Nat × Value)) (rows : List (Nat × TypeId × Nat)) (errT : Nat) : FnS E (N0 tabs rows errT) 75 PI.Tr.f_ref05_Type := .inl ⟨rfl, Tryz.f47, [0, 1, 4, 5, 6], Tryz.func47, by decide, by decide, by decide, rfl, by decide, by decide, ⟨_, c75⟩, by kernel_rfl⟩
theorem c76 : (Tryz.f48.body.map fun c => compC (E.opt ⟨[], [], [], []⟩) Tryz.f48.ntmps [0, 1, 2, 6, 7, 8, 9, 10, 11, 26] c) = some PI.Tr.f_ref43_row.code := by kernel_rfl
theorem o76 (tabs : List (Nat × Nat × Value)) (rows : List (Nat × TypeId × Nat)) (errT : Nat) : FnS E (N0 tabs rows errT) 76 PI.Tr.f_ref43_row := .inl ⟨rfl, Tryz.f48, [0, 1, 2, 6, 7, 8, 9, 10, 11, 26], Tryz.func48, by decide, by decide, by decide, rfl, by decide, by decide, ⟨_, c76⟩, by kernel_rfl⟩
theorem c77 : (Tryz.f70.body.map fun c => compC (E.opt ⟨[], [], [], []⟩) Tryz.f70.ntmps [0, 1, 4] c) = some PI.Tr.f_ref05_known.code := by kernel_rfl
theorem o77 (tabs : List (Nat × Nat × Value)) (rows : List (Nat × TypeId × Nat)) (errT : Nat) : FnS E (N0 tabs rows errT) 77 PI.Tr.f_ref05_known := .inl ⟨rfl, Tryz.f70, [0, 1, 4], Tryz.func70, by decide, by decide, by decide, rfl, by decide, by decide, ⟨_, c77⟩, by kernel_rfl⟩
theorem c78 : (Tryz.f71.body.map fun c => compC (E.opt ⟨[], [], [], []⟩) Tryz.f71.ntmps [0, 1, 2, 6] c) = some PI.Tr.f_ref05_Has.code := by kernel_rfl
theorem o78 (tabs : List (Nat × Nat × Value)) (rows : List (Nat × TypeId × Nat)) (errT : Nat) : FnS E (N0 tabs rows errT) 78 PI.Tr.f_ref05_Has := .inl ⟨rfl, Tryz.f71, [0, 1, 2, 6], Tryz.func71, by decide, by decide, by decide, rfl, by decide, by decide, ⟨_, c78⟩, by kernel_rfl⟩
theorem c79 : (Tryz.f72.body.map fun c => compC (E.opt ⟨[], [], [], []⟩) Tryz.f72.ntmps [0, 2] c) = some PI.Tr.f_ref05_Decimal.code := by kernel_rfl
theorem o79 (tabs : List (Nat × Nat × Value)) (rows : List (Nat × TypeId × Nat)) (errT : Nat) : FnS E (N0 tabs rows errT) 79 PI.Tr.f_ref05_Decimal := .inl ⟨rfl, Tryz.f72, [0, 2], Tryz.func72, by decide, by decide, by decide, rfl, by decide, by decide, ⟨_, c79⟩, by kernel_rfl⟩
theorem c80 : (Tryz.f79.body.map fun c => compC (E.opt ⟨[], [], [], []⟩) Tryz.f79.ntmps [0, 1, 2, 6, 7, 8, 9, 10, 11] c) = some PI.Tr.f_ref05_Parse.code := by kernel_rfl
theorem o80 (tabs : List (Nat × Nat × Value)) (rows : List (Nat × TypeId × Nat)) (errT : Nat) : FnS E (N0 tabs rows errT) 80 PI.Tr.f_ref05_Parse := .inl ⟨rfl, Tryz.f79, [0, 1, 2, 6, 7, 8, 9, 10, 11], Tryz.func79, by decide, by decide, by decide, rfl, by decide, by decide, ⟨_, c80⟩, by kernel_rfl⟩
theorem c81 : (Tryz.f108.body.map fun c => compC (E.opt ⟨[], [], [], []⟩) Tryz.f108.ntmps [0, 1, 4] c) = some PI.Tr.f_ref05_Size.code := by kernel_rfl
theorem o81 (tabs : List (Nat × Nat × Value)) (rows : List (Nat × TypeId × Nat)) (errT : Nat) : FnS E (N0 tabs rows errT) 81 PI.Tr.f_ref05_Size := .inl ⟨rfl, Tryz.f108, [0, 1, 4], Tryz.func108, by decide, by decide, by decide, rfl, by decide, by decide, ⟨_, c81⟩, by kernel_rfl⟩
theorem c82 : (Tryz.f119.body.map fun c => compC (E.opt ⟨[], [], [], []⟩) Tryz.f119.ntmps [0, 2, 3, 4, 5, 6] c) = some PI.Tr.f_ref05_number.code := by kernel_rfl
theorem o82 (tabs : List (Nat × Nat × Value)) (rows : List (Nat × TypeId × Nat)) (errT : Nat) : FnS E (N0 tabs rows errT) 82 PI.Tr.f_ref05_number := .inl ⟨rfl, Tryz.f119, [0, 2, 3, 4, 5, 6], Tryz.func119, by decide, by decide, by decide, rfl, by decide, by decide, ⟨_, c82⟩, by kernel_rfl⟩
theorem libOk (tabs : List (Nat × Nat × Value)) (rows : List (Nat × TypeId × Nat)) (errT : Nat) (h23 : PrimOK (N0 tabs rows errT) Tryz.prog 23 pBString) (h34 : PrimOK (N0 tabs rows errT) Tryz.prog 34 pWriteString) (h35 : PrimOK (N0 tabs rows errT) Tryz.prog 35 pJoin) (h47 : PrimOK (N0 tabs rows errT) Tryz.prog 47 pItoa) (h54 : PrimOK (N0 tabs rows errT) Tryz.prog 54 pAtoi) (h59 : PrimOK (N0 tabs rows errT) Tryz.prog 59 pIndexByte) : ∀ k pf, PI.Tr.LZ k = some pf → FnS E (N0 tabs rows errT) k pf := by
  intro k pf h
  unfold PI.Tr.LZ at h
  split at h
  · simp only [Option.some.injEq] at h; subst h; exact o3 tabs rows errT
  · simp only [Option.some.injEq] at h; subst h; exact o5 tabs rows errT
  · simp only [Option.some.injEq] at h; subst h; exact o6 tabs rows errT
  · simp only [Option.some.injEq] at h; subst h; exact o7 tabs rows errT
  · simp only [Option.some.injEq] at h; subst h; exact o8 tabs rows errT
  · simp only [Option.some.injEq] at h; subst h; exact o9 tabs rows errT
  · simp only [Option.some.injEq] at h; subst h; exact o10 tabs rows errT
  · simp only [Option.some.injEq] at h; subst h; exact o11 tabs rows errT
  · simp only [Option.some.injEq] at h; subst h; exact o13 tabs rows errT
  · simp only [Option.some.injEq] at h; subst h; exact o15 tabs rows errT
  · simp only [Option.some.injEq] at h; subst h; exact o18 tabs rows errT
  · simp only [Option.some.injEq] at h; subst h; exact o19 tabs rows errT
  · simp only [Option.some.injEq] at h; subst h; exact o20 tabs rows errT
  · simp only [Option.some.injEq] at h; subst h; exact o21 tabs rows errT
  · simp only [Option.some.injEq] at h; subst h; exact o22 tabs rows errT
  · simp only [Option.some.injEq] at h; subst h; exact .inr ⟨_, Tryz.f31, rfl, Tryz.func31, by decide, by kernel_rfl, h23⟩
  · simp only [Option.some.injEq] at h; subst h; exact o24 tabs rows errT
  · simp only [Option.some.injEq] at h; subst h; exact o25 tabs rows errT
  · simp only [Option.some.injEq] at h; subst h; exact o26 tabs rows errT
  · simp only [Option.some.injEq] at h; subst h; exact o27 tabs rows errT
  · simp only [Option.some.injEq] at h; subst h; exact o28 tabs rows errT
  · simp only [Option.some.injEq] at h; subst h; exact o29 tabs rows errT
  · simp only [Option.some.injEq] at h; subst h; exact o30 tabs rows errT
  · simp only [Option.some.injEq] at h; subst h; exact o32 tabs rows errT
  · simp only [Option.some.injEq] at h; subst h; exact o33 tabs rows errT
  · simp only [Option.some.injEq] at h; subst h; exact .inr ⟨_, Tryz.f28, rfl, Tryz.func28, by decide, by kernel_rfl, h34⟩
  · simp only [Option.some.injEq] at h; subst h; exact .inr ⟨_, Tryz.f29, rfl, Tryz.func29, by decide, by kernel_rfl, h35⟩
  · simp only [Option.some.injEq] at h; subst h; exact o36 tabs rows errT
  · simp only [Option.some.injEq] at h; subst h; exact o37 tabs rows errT
  · simp only [Option.some.injEq] at h; subst h; exact o38 tabs rows errT
  · simp only [Option.some.injEq] at h; subst h; exact o39 tabs rows errT
  · simp only [Option.some.injEq] at h; subst h; exact o40 tabs rows errT
  · simp only [Option.some.injEq] at h; subst h; exact o41 tabs rows errT
  · simp only [Option.some.injEq] at h; subst h; exact o42 tabs rows errT
  · simp only [Option.some.injEq] at h; subst h; exact o43 tabs rows errT
  · simp only [Option.some.injEq] at h; subst h; exact o44 tabs rows errT
  · simp only [Option.some.injEq] at h; subst h; exact o45 tabs rows errT
  · simp only [Option.some.injEq] at h; subst h; exact o46 tabs rows errT
  · simp only [Option.some.injEq] at h; subst h; exact .inr ⟨_, Tryz.f107, rfl, Tryz.func107, by decide, by kernel_rfl, h47⟩
  · simp only [Option.some.injEq] at h; subst h; exact o48 tabs rows errT
  · simp only [Option.some.injEq] at h; subst h; exact o49 tabs rows errT
  · simp only [Option.some.injEq] at h; subst h; exact o50 tabs rows errT
  · simp only [Option.some.injEq] at h; subst h; exact o51 tabs rows errT
  · simp only [Option.some.injEq] at h; subst h; exact o52 tabs rows errT
  · simp only [Option.some.injEq] at h; subst h; exact o53 tabs rows errT
  · simp only [Option.some.injEq] at h; subst h; exact .inr ⟨_, Tryz.f118, rfl, Tryz.func118, by decide, by kernel_rfl, h54⟩
  · simp only [Option.some.injEq] at h; subst h; exact o55 tabs rows errT
  · simp only [Option.some.injEq] at h; subst h; exact o56 tabs rows errT
  · simp only [Option.some.injEq] at h; subst h; exact o57 tabs rows errT
  · simp only [Option.some.injEq] at h; subst h; exact o58 tabs rows errT
  · simp only [Option.some.injEq] at h; subst h; exact .inr ⟨_, Tryz.f141, rfl, Tryz.func141, by decide, by kernel_rfl, h59⟩
  · simp only [Option.some.injEq] at h; subst h; exact o60 tabs rows errT
  · simp only [Option.some.injEq] at h; subst h; exact o61 tabs rows errT
  · simp only [Option.some.injEq] at h; subst h; exact o62 tabs rows errT
  · simp only [Option.some.injEq] at h; subst h; exact o63 tabs rows errT
  · simp only [Option.some.injEq] at h; subst h; exact o64 tabs rows errT
  · simp only [Option.some.injEq] at h; subst h; exact o65 tabs rows errT
  · simp only [Option.some.injEq] at h; subst h; exact o66 tabs rows errT
  · simp only [Option.some.injEq] at h; subst h; exact o67 tabs rows errT
  · simp only [Option.some.injEq] at h; subst h; exact o68 tabs rows errT
  · simp only [Option.some.injEq] at h; subst h; exact o69 tabs rows errT
  · simp only [Option.some.injEq] at h; subst h; exact o70 tabs rows errT
  · simp only [Option.some.injEq] at h; subst h; exact o71 tabs rows errT
  · simp only [Option.some.injEq] at h; subst h; exact o72 tabs rows errT
  · simp only [Option.some.injEq] at h; subst h; exact o73 tabs rows errT
  · simp only [Option.some.injEq] at h; subst h; exact o74 tabs rows errT
  · simp only [Option.some.injEq] at h; subst h; exact o75 tabs rows errT
  · simp only [Option.some.injEq] at h; subst h; exact o76 tabs rows errT
  · simp only [Option.some.injEq] at h; subst h; exact o77 tabs rows errT
  · simp only [Option.some.injEq] at h; subst h; exact o78 tabs rows errT
  · simp only [Option.some.injEq] at h; subst h; exact o79 tabs rows errT
  · simp only [Option.some.injEq] at h; subst h; exact o80 tabs rows errT
  · simp only [Option.some.injEq] at h; subst h; exact o81 tabs rows errT
  · simp only [Option.some.injEq] at h; subst h; exact o82 tabs rows errT
  · simp at h
end Go.Proofs.YtegahghjancjpaaGreatDoor.Pi
