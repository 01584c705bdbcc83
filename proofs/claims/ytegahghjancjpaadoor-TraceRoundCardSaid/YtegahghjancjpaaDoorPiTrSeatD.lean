/-
  The functions stand in the translated program. Written by program (mk.py).
-/
import Derived.Test.YtegahghjancjpaaDoorChecked
import Derived.Test.YtegahghjancjpaaDoorPiLaw2
import Derived.Test.YtegahghjancjpaaDoorPiTrCode
import Derived.KernelRfl
set_option maxRecDepth 100000
namespace Go.Proofs.YtegahghjancjpaaDoor.Pi
open Go PI

def tab : List Nat := [3, 4, 5, 6, 7, 8, 9, 10, 11, 12, 13, 14, 15, 16, 17, 18, 19, 20, 21, 22, 23, 24, 27, 28, 29, 30, 31, 32, 33, 34, 35, 36, 37, 38, 25, 26, 41, 42, 43, 44, 45, 46, 47, 48, 49, 52, 53, 54, 55, 56, 57, 58, 59, 60, 61, 62, 63, 65, 67, 68, 70, 71, 76]
noncomputable def E : Env := { P := Tryd.prog, inv := fun f => idxIn f tab 0, tinv := fun _ => none, bT := (some 66) }
def N0 (tabs : List (Nat × Nat × Value)) (rows : List (Nat × TypeId × Nat)) (errT : Nat) : Nm := { fn := fun k => tab.getD k 0, ty := fun t => if t = 0 then errT else t, tabs := tabs, rows := rows, bT := 66, bE := 5 }
theorem envOk (tabs : List (Nat × Nat × Value)) (rows : List (Nat × TypeId × Nat)) (errT : Nat) : EnvOk E (N0 tabs rows errT) := ⟨fun f k h => by
  obtain ⟨_, h2⟩ := idxIn_some (show idxIn f tab 0 = some k from h)
  show tab.getD k 0 = f
  rw [List.getD_eq_getElem?_getD, show tab[k]? = some f by simpa using h2]; rfl, fun t h => by
  have : t = 66 := by simpa [E] using h.symm
  subst this
  exact ⟨rfl, by
    have h : ((Tryd.prog.info? 66).bind fun i => i.zero) = some (.agg #[.pointer none, .slice none 0 0]) := by kernel_rfl
    simp only [Option.bind_eq_some_iff] at h
    exact h⟩⟩
theorem mixed : Tryd.prog.follows .mixedOrders = true := by kernel_rfl

theorem c0 : (Tryd.f3.body.map fun c => compC (E.opt ⟨[], [], [], []⟩) Tryd.f3.ntmps [0, 1, 3, 4, 5, 6, 7, 8, 9] c) = some PI.Tr.f_law43_TraceRound.code := by kernel_rfl
theorem o0 (tabs : List (Nat × Nat × Value)) (rows : List (Nat × TypeId × Nat)) (errT : Nat) : FnS E (N0 tabs rows errT) 0 PI.Tr.f_law43_TraceRound := .inl ⟨rfl, Tryd.f3, [0, 1, 3, 4, 5, 6, 7, 8, 9], Tryd.func3, by decide, by decide, by decide, rfl, by decide, by decide, ⟨_, c0⟩, by kernel_rfl⟩
theorem c1 : (Tryd.f4.body.map fun c => compC (E.opt ⟨[], [], [], []⟩) Tryd.f4.ntmps [0, 1, 4, 5, 7, 8, 9] c) = some PI.Tr.f_law43_TraceBack.code := by kernel_rfl
theorem o1 (tabs : List (Nat × Nat × Value)) (rows : List (Nat × TypeId × Nat)) (errT : Nat) : FnS E (N0 tabs rows errT) 1 PI.Tr.f_law43_TraceBack := .inl ⟨rfl, Tryd.f4, [0, 1, 4, 5, 7, 8, 9], Tryd.func4, by decide, by decide, by decide, rfl, by decide, by decide, ⟨_, c1⟩, by kernel_rfl⟩
theorem c2 : (Tryd.f5.body.map fun c => compC (E.opt ⟨[], [], [], []⟩) Tryd.f5.ntmps [0, 1, 2, 3, 6, 7, 8, 9, 10, 11, 12, 13, 14] c) = some PI.Tr.f_law43_TraceCols.code := by kernel_rfl
theorem o2 (tabs : List (Nat × Nat × Value)) (rows : List (Nat × TypeId × Nat)) (errT : Nat) : FnS E (N0 tabs rows errT) 2 PI.Tr.f_law43_TraceCols := .inl ⟨rfl, Tryd.f5, [0, 1, 2, 3, 6, 7, 8, 9, 10, 11, 12, 13, 14], Tryd.func5, by decide, by decide, by decide, rfl, by decide, by decide, ⟨_, c2⟩, by kernel_rfl⟩
theorem c3 : (Tryd.f6.body.map fun c => compC (E.opt ⟨[], [], [], []⟩) Tryd.f6.ntmps [0, 1, 2, 3, 4] c) = some PI.Tr.f_law43_light.code := by kernel_rfl
theorem o3 (tabs : List (Nat × Nat × Value)) (rows : List (Nat × TypeId × Nat)) (errT : Nat) : FnS E (N0 tabs rows errT) 3 PI.Tr.f_law43_light := .inl ⟨rfl, Tryd.f6, [0, 1, 2, 3, 4], Tryd.func6, by decide, by decide, by decide, rfl, by decide, by decide, ⟨_, c3⟩, by kernel_rfl⟩
theorem c4 : (Tryd.f7.body.map fun c => compC (E.opt ⟨[], [], [], []⟩) Tryd.f7.ntmps [0, 2, 3, 4] c) = some PI.Tr.f_law43_named.code := by kernel_rfl
theorem o4 (tabs : List (Nat × Nat × Value)) (rows : List (Nat × TypeId × Nat)) (errT : Nat) : FnS E (N0 tabs rows errT) 4 PI.Tr.f_law43_named := .inl ⟨rfl, Tryd.f7, [0, 2, 3, 4], Tryd.func7, by decide, by decide, by decide, rfl, by decide, by decide, ⟨_, c4⟩, by kernel_rfl⟩
theorem c5 : (Tryd.f8.body.map fun c => compC (E.opt ⟨[], [], [], []⟩) Tryd.f8.ntmps [0, 1, 2, 3, 4, 5, 6, 7, 8, 9, 10, 11, 12] c) = some PI.Tr.f_law43_awake.code := by kernel_rfl
theorem o5 (tabs : List (Nat × Nat × Value)) (rows : List (Nat × TypeId × Nat)) (errT : Nat) : FnS E (N0 tabs rows errT) 5 PI.Tr.f_law43_awake := .inl ⟨rfl, Tryd.f8, [0, 1, 2, 3, 4, 5, 6, 7, 8, 9, 10, 11, 12], Tryd.func8, by decide, by decide, by decide, rfl, by decide, by decide, ⟨_, c5⟩, by kernel_rfl⟩
theorem c6 : (Tryd.f9.body.map fun c => compC (E.opt ⟨[13], [28], [51, 54, 84], []⟩) Tryd.f9.ntmps [0, 1, 3, 4, 5, 6, 7, 8, 10, 11, 13, 14, 16, 17, 18, 19, 27, 28, 29, 58, 59, 60, 64, 65, 66] c) = some PI.Tr.f_trace_Text.code := by kernel_rfl
theorem o6 (tabs : List (Nat × Nat × Value)) (rows : List (Nat × TypeId × Nat)) (errT : Nat) : FnS E (N0 tabs rows errT) 6 PI.Tr.f_trace_Text := .inl ⟨rfl, Tryd.f9, [0, 1, 3, 4, 5, 6, 7, 8, 10, 11, 13, 14, 16, 17, 18, 19, 27, 28, 29, 58, 59, 60, 64, 65, 66], Tryd.func9, by decide, by decide, by decide, rfl, by decide, by decide, ⟨_, c6⟩, by kernel_rfl⟩
theorem c7 : (Tryd.f10.body.map fun c => compC (E.opt ⟨[], [], [], []⟩) Tryd.f10.ntmps [0, 1, 3, 4, 5, 7, 8, 9, 10, 29, 30, 31, 41, 42, 43] c) = some PI.Tr.f_trace_Check.code := by kernel_rfl
theorem o7 (tabs : List (Nat × Nat × Value)) (rows : List (Nat × TypeId × Nat)) (errT : Nat) : FnS E (N0 tabs rows errT) 7 PI.Tr.f_trace_Check := .inl ⟨rfl, Tryd.f10, [0, 1, 3, 4, 5, 7, 8, 9, 10, 29, 30, 31, 41, 42, 43], Tryd.func10, by decide, by decide, by decide, rfl, by decide, by decide, ⟨_, c7⟩, by kernel_rfl⟩
theorem c8 : (Tryd.f11.body.map fun c => compC (E.opt ⟨[7, 16], [33, 34, 35], [], [23]⟩) Tryd.f11.ntmps [0, 1, 4, 5, 6, 7, 8, 9, 10, 11, 12, 13, 16, 42] c) = some PI.Tr.f_trace_Parse.code := by kernel_rfl
theorem o8 (tabs : List (Nat × Nat × Value)) (rows : List (Nat × TypeId × Nat)) (errT : Nat) : FnS E (N0 tabs rows errT) 8 PI.Tr.f_trace_Parse := .inl ⟨rfl, Tryd.f11, [0, 1, 4, 5, 6, 7, 8, 9, 10, 11, 12, 13, 16, 42], Tryd.func11, by decide, by decide, by decide, rfl, by decide, by decide, ⟨_, c8⟩, by kernel_rfl⟩
theorem c9 : (Tryd.f12.body.map fun c => compC (E.opt ⟨[], [], [], []⟩) Tryd.f12.ntmps [0, 1, 2, 3, 4, 5, 6, 7, 8] c) = some PI.Tr.f_ref43_Same.code := by kernel_rfl
theorem o9 (tabs : List (Nat × Nat × Value)) (rows : List (Nat × TypeId × Nat)) (errT : Nat) : FnS E (N0 tabs rows errT) 9 PI.Tr.f_ref43_Same := .inl ⟨rfl, Tryd.f12, [0, 1, 2, 3, 4, 5, 6, 7, 8], Tryd.func12, by decide, by decide, by decide, rfl, by decide, by decide, ⟨_, c9⟩, by kernel_rfl⟩
theorem c10 : (Tryd.f13.body.map fun c => compC (E.opt ⟨[], [], [], []⟩) Tryd.f13.ntmps [0, 2, 3, 4, 5] c) = some PI.Tr.f_ref36_Lines.code := by kernel_rfl
theorem o10 (tabs : List (Nat × Nat × Value)) (rows : List (Nat × TypeId × Nat)) (errT : Nat) : FnS E (N0 tabs rows errT) 10 PI.Tr.f_ref36_Lines := .inl ⟨rfl, Tryd.f13, [0, 2, 3, 4, 5], Tryd.func13, by decide, by decide, by decide, rfl, by decide, by decide, ⟨_, c10⟩, by kernel_rfl⟩
theorem c11 : (Tryd.f14.body.map fun c => compC (E.opt ⟨[], [], [], []⟩) Tryd.f14.ntmps [0, 1, 2, 4, 5, 6, 7, 8, 10, 11, 13, 14, 15, 25, 26, 27] c) = some PI.Tr.f_trace_Col.code := by kernel_rfl
theorem o11 (tabs : List (Nat × Nat × Value)) (rows : List (Nat × TypeId × Nat)) (errT : Nat) : FnS E (N0 tabs rows errT) 11 PI.Tr.f_trace_Col := .inl ⟨rfl, Tryd.f14, [0, 1, 2, 4, 5, 6, 7, 8, 10, 11, 13, 14, 15, 25, 26, 27], Tryd.func14, by decide, by decide, by decide, rfl, by decide, by decide, ⟨_, c11⟩, by kernel_rfl⟩
theorem c12 : (Tryd.f15.body.map fun c => compC (E.opt ⟨[], [], [], []⟩) Tryd.f15.ntmps [0, 1, 2, 4, 5, 6, 7, 8, 9] c) = some PI.Tr.f_ref43_Col.code := by kernel_rfl
theorem o12 (tabs : List (Nat × Nat × Value)) (rows : List (Nat × TypeId × Nat)) (errT : Nat) : FnS E (N0 tabs rows errT) 12 PI.Tr.f_ref43_Col := .inl ⟨rfl, Tryd.f15, [0, 1, 2, 4, 5, 6, 7, 8, 9], Tryd.func15, by decide, by decide, by decide, rfl, by decide, by decide, ⟨_, c12⟩, by kernel_rfl⟩
theorem c13 : (Tryd.f16.body.map fun c => compC (E.opt ⟨[11], [], [], []⟩) Tryd.f16.ntmps [0, 1, 2, 4, 5, 6, 8, 9, 10, 11, 13, 14, 15, 16, 17, 18, 39, 40, 41, 45, 46, 47] c) = some PI.Tr.f_trace_Rows.code := by kernel_rfl
theorem o13 (tabs : List (Nat × Nat × Value)) (rows : List (Nat × TypeId × Nat)) (errT : Nat) : FnS E (N0 tabs rows errT) 13 PI.Tr.f_trace_Rows := .inl ⟨rfl, Tryd.f16, [0, 1, 2, 4, 5, 6, 8, 9, 10, 11, 13, 14, 15, 16, 17, 18, 39, 40, 41, 45, 46, 47], Tryd.func16, by decide, by decide, by decide, rfl, by decide, by decide, ⟨_, c13⟩, by kernel_rfl⟩
theorem c14 : (Tryd.f17.body.map fun c => compC (E.opt ⟨[6], [], [], []⟩) Tryd.f17.ntmps [0, 1, 2, 4, 5, 6, 7, 8, 9, 11] c) = some PI.Tr.f_ref43_Rows.code := by kernel_rfl
theorem o14 (tabs : List (Nat × Nat × Value)) (rows : List (Nat × TypeId × Nat)) (errT : Nat) : FnS E (N0 tabs rows errT) 14 PI.Tr.f_ref43_Rows := .inl ⟨rfl, Tryd.f17, [0, 1, 2, 4, 5, 6, 7, 8, 9, 11], Tryd.func17, by decide, by decide, by decide, rfl, by decide, by decide, ⟨_, c14⟩, by kernel_rfl⟩
theorem c15 : (Tryd.f18.body.map fun c => compC (E.opt ⟨[], [], [], []⟩) Tryd.f18.ntmps [0, 1, 4, 5] c) = some PI.Tr.f_law43_cells.code := by kernel_rfl
theorem o15 (tabs : List (Nat × Nat × Value)) (rows : List (Nat × TypeId × Nat)) (errT : Nat) : FnS E (N0 tabs rows errT) 15 PI.Tr.f_law43_cells := .inl ⟨rfl, Tryd.f18, [0, 1, 4, 5], Tryd.func18, by decide, by decide, by decide, rfl, by decide, by decide, ⟨_, c15⟩, by kernel_rfl⟩
theorem c16 : (Tryd.f19.body.map fun c => compC (E.opt ⟨[], [], [], []⟩) Tryd.f19.ntmps [0, 1, 4, 5] c) = some PI.Tr.f_law43_tables.code := by kernel_rfl
theorem o16 (tabs : List (Nat × Nat × Value)) (rows : List (Nat × TypeId × Nat)) (errT : Nat) : FnS E (N0 tabs rows errT) 16 PI.Tr.f_law43_tables := .inl ⟨rfl, Tryd.f19, [0, 1, 4, 5], Tryd.func19, by decide, by decide, by decide, rfl, by decide, by decide, ⟨_, c16⟩, by kernel_rfl⟩
theorem c17 : (Tryd.f20.body.map fun c => compC (E.opt ⟨[], [], [], []⟩) Tryd.f20.ntmps [0, 2, 3, 4] c) = some PI.Tr.f_law43_distinct.code := by kernel_rfl
theorem o17 (tabs : List (Nat × Nat × Value)) (rows : List (Nat × TypeId × Nat)) (errT : Nat) : FnS E (N0 tabs rows errT) 17 PI.Tr.f_law43_distinct := .inl ⟨rfl, Tryd.f20, [0, 2, 3, 4], Tryd.func20, by decide, by decide, by decide, rfl, by decide, by decide, ⟨_, c17⟩, by kernel_rfl⟩
theorem c18 : (Tryd.f21.body.map fun c => compC (E.opt ⟨[], [], [], []⟩) Tryd.f21.ntmps [0, 1] c) = some PI.Tr.f_law43_sample.code := by kernel_rfl
theorem o18 (tabs : List (Nat × Nat × Value)) (rows : List (Nat × TypeId × Nat)) (errT : Nat) : FnS E (N0 tabs rows errT) 18 PI.Tr.f_law43_sample := .inl ⟨rfl, Tryd.f21, [0, 1], Tryd.func21, by decide, by decide, by decide, rfl, by decide, by decide, ⟨_, c18⟩, by kernel_rfl⟩
theorem c19 : (Tryd.f22.body.map fun c => compC (E.opt ⟨[], [], [], []⟩) Tryd.f22.ntmps [0, 1, 4, 5] c) = some PI.Tr.f_ref04_Same.code := by kernel_rfl
theorem o19 (tabs : List (Nat × Nat × Value)) (rows : List (Nat × TypeId × Nat)) (errT : Nat) : FnS E (N0 tabs rows errT) 19 PI.Tr.f_ref04_Same := .inl ⟨rfl, Tryd.f22, [0, 1, 4, 5], Tryd.func22, by decide, by decide, by decide, rfl, by decide, by decide, ⟨_, c19⟩, by kernel_rfl⟩
theorem c20 : (Tryd.f23.body.map fun c => compC (E.opt ⟨[], [], [], []⟩) Tryd.f23.ntmps [0, 1, 4, 5, 6, 7, 8] c) = some PI.Tr.f_value_Name.code := by kernel_rfl
theorem o20 (tabs : List (Nat × Nat × Value)) (rows : List (Nat × TypeId × Nat)) (errT : Nat) : FnS E (N0 tabs rows errT) 20 PI.Tr.f_value_Name := .inl ⟨rfl, Tryd.f23, [0, 1, 4, 5, 6, 7, 8], Tryd.func23, by decide, by decide, by decide, rfl, by decide, by decide, ⟨_, c20⟩, by kernel_rfl⟩
theorem c21 : (Tryd.f24.body.map fun c => compC (E.opt ⟨[1], [25], [], []⟩) Tryd.f24.ntmps [0, 1] c) = some PI.Tr.f_trace_Text_1.code := by kernel_rfl
theorem o21 (tabs : List (Nat × Nat × Value)) (rows : List (Nat × TypeId × Nat)) (errT : Nat) : FnS E (N0 tabs rows errT) 21 PI.Tr.f_trace_Text_1 := .inl ⟨rfl, Tryd.f24, [0, 1], Tryd.func24, by decide, by decide, by decide, rfl, by decide, by decide, ⟨_, c21⟩, by kernel_rfl⟩
theorem c22 : (Tryd.f27.body.map fun c => compC (E.opt ⟨[], [], [], []⟩) Tryd.f27.ntmps [0, 1, 2, 5, 6, 7, 10] c) = some PI.Tr.f_trace_word.code := by kernel_rfl
theorem o22 (tabs : List (Nat × Nat × Value)) (rows : List (Nat × TypeId × Nat)) (errT : Nat) : FnS E (N0 tabs rows errT) 22 PI.Tr.f_trace_word := .inl ⟨rfl, Tryd.f27, [0, 1, 2, 5, 6, 7, 10], Tryd.func27, by decide, by decide, by decide, rfl, by decide, by decide, ⟨_, c22⟩, by kernel_rfl⟩
theorem c24 : (Tryd.f29.body.map fun c => compC (E.opt ⟨[], [], [], []⟩) Tryd.f29.ntmps [0, 1, 4, 5, 7, 9, 11, 12, 13] c) = some PI.Tr.f_trace_columns.code := by kernel_rfl
theorem o24 (tabs : List (Nat × Nat × Value)) (rows : List (Nat × TypeId × Nat)) (errT : Nat) : FnS E (N0 tabs rows errT) 24 PI.Tr.f_trace_columns := .inl ⟨rfl, Tryd.f29, [0, 1, 4, 5, 7, 9, 11, 12, 13], Tryd.func29, by decide, by decide, by decide, rfl, by decide, by decide, ⟨_, c24⟩, by kernel_rfl⟩
theorem c25 : (Tryd.f30.body.map fun c => compC (E.opt ⟨[], [], [], []⟩) Tryd.f30.ntmps [0, 1, 2, 5, 6, 7] c) = some PI.Tr.f_trace_cell.code := by kernel_rfl
theorem o25 (tabs : List (Nat × Nat × Value)) (rows : List (Nat × TypeId × Nat)) (errT : Nat) : FnS E (N0 tabs rows errT) 25 PI.Tr.f_trace_cell := .inl ⟨rfl, Tryd.f30, [0, 1, 2, 5, 6, 7], Tryd.func30, by decide, by decide, by decide, rfl, by decide, by decide, ⟨_, c25⟩, by kernel_rfl⟩
theorem c26 : (Tryd.f31.body.map fun c => compC (E.opt ⟨[], [], [], []⟩) Tryd.f31.ntmps [0, 1, 4, 5, 6] c) = some PI.Tr.f_strings_Cut.code := by kernel_rfl
theorem o26 (tabs : List (Nat × Nat × Value)) (rows : List (Nat × TypeId × Nat)) (errT : Nat) : FnS E (N0 tabs rows errT) 26 PI.Tr.f_strings_Cut := .inl ⟨rfl, Tryd.f31, [0, 1, 4, 5, 6], Tryd.func31, by decide, by decide, by decide, rfl, by decide, by decide, ⟨_, c26⟩, by kernel_rfl⟩
theorem c27 : (Tryd.f32.body.map fun c => compC (E.opt ⟨[], [], [], []⟩) Tryd.f32.ntmps [0, 2, 3, 4, 5, 6, 10, 11] c) = some PI.Tr.f_trace_words.code := by kernel_rfl
theorem o27 (tabs : List (Nat × Nat × Value)) (rows : List (Nat × TypeId × Nat)) (errT : Nat) : FnS E (N0 tabs rows errT) 27 PI.Tr.f_trace_words := .inl ⟨rfl, Tryd.f32, [0, 2, 3, 4, 5, 6, 10, 11], Tryd.func32, by decide, by decide, by decide, rfl, by decide, by decide, ⟨_, c27⟩, by kernel_rfl⟩
theorem c28 : (Tryd.f33.body.map fun c => compC (E.opt ⟨[0], [], [], [23]⟩) Tryd.f33.ntmps [0, 1, 4, 5, 7, 12, 13, 14] c) = some PI.Tr.f_trace_parser_names.code := by kernel_rfl
theorem o28 (tabs : List (Nat × Nat × Value)) (rows : List (Nat × TypeId × Nat)) (errT : Nat) : FnS E (N0 tabs rows errT) 28 PI.Tr.f_trace_parser_names := .inl ⟨rfl, Tryd.f33, [0, 1, 4, 5, 7, 12, 13, 14], Tryd.func33, by decide, by decide, by decide, rfl, by decide, by decide, ⟨_, c28⟩, by kernel_rfl⟩
theorem c29 : (Tryd.f34.body.map fun c => compC (E.opt ⟨[0], [], [], [23]⟩) Tryd.f34.ntmps [0, 1, 4, 5, 6, 7, 8, 18, 19, 20] c) = some PI.Tr.f_trace_parser_types.code := by kernel_rfl
theorem o29 (tabs : List (Nat × Nat × Value)) (rows : List (Nat × TypeId × Nat)) (errT : Nat) : FnS E (N0 tabs rows errT) 29 PI.Tr.f_trace_parser_types := .inl ⟨rfl, Tryd.f34, [0, 1, 4, 5, 6, 7, 8, 18, 19, 20], Tryd.func34, by decide, by decide, by decide, rfl, by decide, by decide, ⟨_, c29⟩, by kernel_rfl⟩
theorem c30 : (Tryd.f35.body.map fun c => compC (E.opt ⟨[0], [], [], [23]⟩) Tryd.f35.ntmps [0, 1, 4, 5, 6, 7, 8, 9, 10, 27, 28, 29, 35] c) = some PI.Tr.f_trace_parser_row.code := by kernel_rfl
theorem o30 (tabs : List (Nat × Nat × Value)) (rows : List (Nat × TypeId × Nat)) (errT : Nat) : FnS E (N0 tabs rows errT) 30 PI.Tr.f_trace_parser_row := .inl ⟨rfl, Tryd.f35, [0, 1, 4, 5, 6, 7, 8, 9, 10, 27, 28, 29, 35], Tryd.func35, by decide, by decide, by decide, rfl, by decide, by decide, ⟨_, c30⟩, by kernel_rfl⟩
theorem c31 : (Tryd.f36.body.map fun c => compC (E.opt ⟨[], [], [], []⟩) Tryd.f36.ntmps [0, 1, 2, 4, 5] c) = some PI.Tr.f_ref43_place.code := by kernel_rfl
theorem o31 (tabs : List (Nat × Nat × Value)) (rows : List (Nat × TypeId × Nat)) (errT : Nat) : FnS E (N0 tabs rows errT) 31 PI.Tr.f_ref43_place := .inl ⟨rfl, Tryd.f36, [0, 1, 2, 4, 5], Tryd.func36, by decide, by decide, by decide, rfl, by decide, by decide, ⟨_, c31⟩, by kernel_rfl⟩
theorem c32 : (Tryd.f37.body.map fun c => compC (E.opt ⟨[], [], [], []⟩) Tryd.f37.ntmps [0, 2, 3] c) = some PI.Tr.f_ref03_Ident.code := by kernel_rfl
theorem o32 (tabs : List (Nat × Nat × Value)) (rows : List (Nat × TypeId × Nat)) (errT : Nat) : FnS E (N0 tabs rows errT) 32 PI.Tr.f_ref03_Ident := .inl ⟨rfl, Tryd.f37, [0, 2, 3], Tryd.func37, by decide, by decide, by decide, rfl, by decide, by decide, ⟨_, c32⟩, by kernel_rfl⟩
theorem c33 : (Tryd.f38.body.map fun c => compC (E.opt ⟨[], [], [], []⟩) Tryd.f38.ntmps [0, 1, 4, 5] c) = some PI.Tr.f_value_enum.code := by kernel_rfl
theorem o33 (tabs : List (Nat × Nat × Value)) (rows : List (Nat × TypeId × Nat)) (errT : Nat) : FnS E (N0 tabs rows errT) 33 PI.Tr.f_value_enum := .inl ⟨rfl, Tryd.f38, [0, 1, 4, 5], Tryd.func38, by decide, by decide, by decide, rfl, by decide, by decide, ⟨_, c33⟩, by kernel_rfl⟩
theorem c36 : (Tryd.f41.body.map fun c => compC (E.opt ⟨[], [], [], []⟩) Tryd.f41.ntmps [0, 1, 2, 6, 7] c) = some PI.Tr.f_value_Text.code := by kernel_rfl
theorem o36 (tabs : List (Nat × Nat × Value)) (rows : List (Nat × TypeId × Nat)) (errT : Nat) : FnS E (N0 tabs rows errT) 36 PI.Tr.f_value_Text := .inl ⟨rfl, Tryd.f41, [0, 1, 2, 6, 7], Tryd.func41, by decide, by decide, by decide, rfl, by decide, by decide, ⟨_, c36⟩, by kernel_rfl⟩
theorem c37 : (Tryd.f42.body.map fun c => compC (E.opt ⟨[], [], [], []⟩) Tryd.f42.ntmps [0, 2, 3, 22, 23] c) = some PI.Tr.f_lex_Ident.code := by kernel_rfl
theorem o37 (tabs : List (Nat × Nat × Value)) (rows : List (Nat × TypeId × Nat)) (errT : Nat) : FnS E (N0 tabs rows errT) 37 PI.Tr.f_lex_Ident := .inl ⟨rfl, Tryd.f42, [0, 2, 3, 22, 23], Tryd.func42, by decide, by decide, by decide, rfl, by decide, by decide, ⟨_, c37⟩, by kernel_rfl⟩
theorem c38 : (Tryd.f43.body.map fun c => compC (E.opt ⟨[], [], [], []⟩) Tryd.f43.ntmps [0, 1, 2, 6] c) = some PI.Tr.f_value_Has.code := by kernel_rfl
theorem o38 (tabs : List (Nat × Nat × Value)) (rows : List (Nat × TypeId × Nat)) (errT : Nat) : FnS E (N0 tabs rows errT) 38 PI.Tr.f_value_Has := .inl ⟨rfl, Tryd.f43, [0, 1, 2, 6], Tryd.func43, by decide, by decide, by decide, rfl, by decide, by decide, ⟨_, c38⟩, by kernel_rfl⟩
theorem c39 : (Tryd.f44.body.map fun c => compC (E.opt ⟨[], [], [], []⟩) Tryd.f44.ntmps [0, 1, 4, 5, 6, 7] c) = some PI.Tr.f_internal_stringslite_Cut.code := by kernel_rfl
theorem o39 (tabs : List (Nat × Nat × Value)) (rows : List (Nat × TypeId × Nat)) (errT : Nat) : FnS E (N0 tabs rows errT) 39 PI.Tr.f_internal_stringslite_Cut := .inl ⟨rfl, Tryd.f44, [0, 1, 4, 5, 6, 7], Tryd.func44, by decide, by decide, by decide, rfl, by decide, by decide, ⟨_, c39⟩, by kernel_rfl⟩
theorem c40 : (Tryd.f45.body.map fun c => compC (E.opt ⟨[], [], [], []⟩) Tryd.f45.ntmps [0, 1, 4, 5, 6, 7, 8, 13, 14, 15] c) = some PI.Tr.f_value_Type.code := by kernel_rfl
theorem o40 (tabs : List (Nat × Nat × Value)) (rows : List (Nat × TypeId × Nat)) (errT : Nat) : FnS E (N0 tabs rows errT) 40 PI.Tr.f_value_Type := .inl ⟨rfl, Tryd.f45, [0, 1, 4, 5, 6, 7, 8, 13, 14, 15], Tryd.func45, by decide, by decide, by decide, rfl, by decide, by decide, ⟨_, c40⟩, by kernel_rfl⟩
theorem c41 : (Tryd.f46.body.map fun c => compC (E.opt ⟨[], [61], [], []⟩) Tryd.f46.ntmps [0, 1, 2, 6, 7, 8, 9, 10, 11, 12, 42, 43] c) = some PI.Tr.f_value_Parse.code := by kernel_rfl
theorem o41 (tabs : List (Nat × Nat × Value)) (rows : List (Nat × TypeId × Nat)) (errT : Nat) : FnS E (N0 tabs rows errT) 41 PI.Tr.f_value_Parse := .inl ⟨rfl, Tryd.f46, [0, 1, 2, 6, 7, 8, 9, 10, 11, 12, 42, 43], Tryd.func46, by decide, by decide, by decide, rfl, by decide, by decide, ⟨_, c41⟩, by kernel_rfl⟩
theorem c42 : (Tryd.f47.body.map fun c => compC (E.opt ⟨[], [], [], []⟩) Tryd.f47.ntmps [0, 2] c) = some PI.Tr.f_ref03_Letter.code := by kernel_rfl
theorem o42 (tabs : List (Nat × Nat × Value)) (rows : List (Nat × TypeId × Nat)) (errT : Nat) : FnS E (N0 tabs rows errT) 42 PI.Tr.f_ref03_Letter := .inl ⟨rfl, Tryd.f47, [0, 2], Tryd.func47, by decide, by decide, by decide, rfl, by decide, by decide, ⟨_, c42⟩, by kernel_rfl⟩
theorem c43 : (Tryd.f48.body.map fun c => compC (E.opt ⟨[], [], [], []⟩) Tryd.f48.ntmps [0, 2] c) = some PI.Tr.f_ref03_inner.code := by kernel_rfl
theorem o43 (tabs : List (Nat × Nat × Value)) (rows : List (Nat × TypeId × Nat)) (errT : Nat) : FnS E (N0 tabs rows errT) 43 PI.Tr.f_ref03_inner := .inl ⟨rfl, Tryd.f48, [0, 2], Tryd.func48, by decide, by decide, by decide, rfl, by decide, by decide, ⟨_, c43⟩, by kernel_rfl⟩
theorem c44 : (Tryd.f49.body.map fun c => compC (E.opt ⟨[], [], [], []⟩) Tryd.f49.ntmps [0, 2, 3, 4] c) = some PI.Tr.f_ref03_Keyword.code := by kernel_rfl
theorem o44 (tabs : List (Nat × Nat × Value)) (rows : List (Nat × TypeId × Nat)) (errT : Nat) : FnS E (N0 tabs rows errT) 44 PI.Tr.f_ref03_Keyword := .inl ⟨rfl, Tryd.f49, [0, 2, 3, 4], Tryd.func49, by decide, by decide, by decide, rfl, by decide, by decide, ⟨_, c44⟩, by kernel_rfl⟩
theorem c45 : (Tryd.f52.body.map fun c => compC (E.opt ⟨[], [], [], []⟩) Tryd.f52.ntmps [0, 1, 4, 6] c) = some PI.Tr.f_value_valid.code := by kernel_rfl
theorem o45 (tabs : List (Nat × Nat × Value)) (rows : List (Nat × TypeId × Nat)) (errT : Nat) : FnS E (N0 tabs rows errT) 45 PI.Tr.f_value_valid := .inl ⟨rfl, Tryd.f52, [0, 1, 4, 6], Tryd.func52, by decide, by decide, by decide, rfl, by decide, by decide, ⟨_, c45⟩, by kernel_rfl⟩
theorem c46 : (Tryd.f53.body.map fun c => compC (E.opt ⟨[], [], [], []⟩) Tryd.f53.ntmps [0, 2] c) = some PI.Tr.f_strconv_FormatBool.code := by kernel_rfl
theorem o46 (tabs : List (Nat × Nat × Value)) (rows : List (Nat × TypeId × Nat)) (errT : Nat) : FnS E (N0 tabs rows errT) 46 PI.Tr.f_strconv_FormatBool := .inl ⟨rfl, Tryd.f53, [0, 2], Tryd.func53, by decide, by decide, by decide, rfl, by decide, by decide, ⟨_, c46⟩, by kernel_rfl⟩
theorem c48 : (Tryd.f55.body.map fun c => compC (E.opt ⟨[], [], [], []⟩) Tryd.f55.ntmps [0, 2] c) = some PI.Tr.f_lex_letter.code := by kernel_rfl
theorem o48 (tabs : List (Nat × Nat × Value)) (rows : List (Nat × TypeId × Nat)) (errT : Nat) : FnS E (N0 tabs rows errT) 48 PI.Tr.f_lex_letter := .inl ⟨rfl, Tryd.f55, [0, 2], Tryd.func55, by decide, by decide, by decide, rfl, by decide, by decide, ⟨_, c48⟩, by kernel_rfl⟩
theorem c49 : (Tryd.f56.body.map fun c => compC (E.opt ⟨[], [], [], []⟩) Tryd.f56.ntmps [0, 2, 3, 4] c) = some PI.Tr.f_lex_Keyword.code := by kernel_rfl
theorem o49 (tabs : List (Nat × Nat × Value)) (rows : List (Nat × TypeId × Nat)) (errT : Nat) : FnS E (N0 tabs rows errT) 49 PI.Tr.f_lex_Keyword := .inl ⟨rfl, Tryd.f56, [0, 2, 3, 4], Tryd.func56, by decide, by decide, by decide, rfl, by decide, by decide, ⟨_, c49⟩, by kernel_rfl⟩
theorem c50 : (Tryd.f57.body.map fun c => compC (E.opt ⟨[], [], [], []⟩) Tryd.f57.ntmps [0, 2] c) = some PI.Tr.f_lex_inner.code := by kernel_rfl
theorem o50 (tabs : List (Nat × Nat × Value)) (rows : List (Nat × TypeId × Nat)) (errT : Nat) : FnS E (N0 tabs rows errT) 50 PI.Tr.f_lex_inner := .inl ⟨rfl, Tryd.f57, [0, 2], Tryd.func57, by decide, by decide, by decide, rfl, by decide, by decide, ⟨_, c50⟩, by kernel_rfl⟩
theorem c51 : (Tryd.f58.body.map fun c => compC (E.opt ⟨[], [], [], []⟩) Tryd.f58.ntmps [0, 2] c) = some PI.Tr.f_word_In.code := by kernel_rfl
theorem o51 (tabs : List (Nat × Nat × Value)) (rows : List (Nat × TypeId × Nat)) (errT : Nat) : FnS E (N0 tabs rows errT) 51 PI.Tr.f_word_In := .inl ⟨rfl, Tryd.f58, [0, 2], Tryd.func58, by decide, by decide, by decide, rfl, by decide, by decide, ⟨_, c51⟩, by kernel_rfl⟩
theorem c52 : (Tryd.f59.body.map fun c => compC (E.opt ⟨[], [], [], []⟩) Tryd.f59.ntmps [0, 1, 4, 5, 7] c) = some PI.Tr.f_value_Size.code := by kernel_rfl
theorem o52 (tabs : List (Nat × Nat × Value)) (rows : List (Nat × TypeId × Nat)) (errT : Nat) : FnS E (N0 tabs rows errT) 52 PI.Tr.f_value_Size := .inl ⟨rfl, Tryd.f59, [0, 1, 4, 5, 7], Tryd.func59, by decide, by decide, by decide, rfl, by decide, by decide, ⟨_, c52⟩, by kernel_rfl⟩
theorem c53 : (Tryd.f60.body.map fun c => compC (E.opt ⟨[], [], [], []⟩) Tryd.f60.ntmps [0, 1, 4, 5, 6, 7, 8, 9, 10, 11, 12, 13] c) = some PI.Tr.f_internal_stringslite_Index.code := by kernel_rfl
theorem o53 (tabs : List (Nat × Nat × Value)) (rows : List (Nat × TypeId × Nat)) (errT : Nat) : FnS E (N0 tabs rows errT) 53 PI.Tr.f_internal_stringslite_Index := .inl ⟨rfl, Tryd.f60, [0, 1, 4, 5, 6, 7, 8, 9, 10, 11, 12, 13], Tryd.func60, by decide, by decide, by decide, rfl, by decide, by decide, ⟨_, c53⟩, by kernel_rfl⟩
theorem c55 : (Tryd.f62.body.map fun c => compC (E.opt ⟨[], [], [], []⟩) Tryd.f62.ntmps [0, 2] c) = some PI.Tr.f_ref03_digit.code := by kernel_rfl
theorem o55 (tabs : List (Nat × Nat × Value)) (rows : List (Nat × TypeId × Nat)) (errT : Nat) : FnS E (N0 tabs rows errT) 55 PI.Tr.f_ref03_digit := .inl ⟨rfl, Tryd.f62, [0, 2], Tryd.func62, by decide, by decide, by decide, rfl, by decide, by decide, ⟨_, c55⟩, by kernel_rfl⟩
theorem c56 : (Tryd.f63.body.map fun c => compC (E.opt ⟨[], [], [], []⟩) Tryd.f63.ntmps [0] c) = some PI.Tr.f_ref03_keywords.code := by kernel_rfl
theorem o56 (tabs : List (Nat × Nat × Value)) (rows : List (Nat × TypeId × Nat)) (errT : Nat) : FnS E (N0 tabs rows errT) 56 PI.Tr.f_ref03_keywords := .inl ⟨rfl, Tryd.f63, [0], Tryd.func63, by decide, by decide, by decide, rfl, by decide, by decide, ⟨_, c56⟩, by kernel_rfl⟩
theorem c57 : (Tryd.f65.body.map fun c => compC (E.opt ⟨[], [], [], []⟩) Tryd.f65.ntmps [0, 2] c) = some PI.Tr.f_internal_strconv_FormatBool.code := by kernel_rfl
theorem o57 (tabs : List (Nat × Nat × Value)) (rows : List (Nat × TypeId × Nat)) (errT : Nat) : FnS E (N0 tabs rows errT) 57 PI.Tr.f_internal_strconv_FormatBool := .inl ⟨rfl, Tryd.f65, [0, 2], Tryd.func65, by decide, by decide, by decide, rfl, by decide, by decide, ⟨_, c57⟩, by kernel_rfl⟩
theorem c58 : (Tryd.f67.body.map fun c => compC (E.opt ⟨[], [], [], []⟩) Tryd.f67.ntmps [0, 2] c) = some PI.Tr.f_lex_digit.code := by kernel_rfl
theorem o58 (tabs : List (Nat × Nat × Value)) (rows : List (Nat × TypeId × Nat)) (errT : Nat) : FnS E (N0 tabs rows errT) 58 PI.Tr.f_lex_digit := .inl ⟨rfl, Tryd.f67, [0, 2], Tryd.func67, by decide, by decide, by decide, rfl, by decide, by decide, ⟨_, c58⟩, by kernel_rfl⟩
theorem c60 : (Tryd.f70.body.map fun c => compC (E.opt ⟨[], [], [], []⟩) Tryd.f70.ntmps [0, 2] c) = some PI.Tr.f_internal_bytealg_Cutover.code := by kernel_rfl
theorem o60 (tabs : List (Nat × Nat × Value)) (rows : List (Nat × TypeId × Nat)) (errT : Nat) : FnS E (N0 tabs rows errT) 60 PI.Tr.f_internal_bytealg_Cutover := .inl ⟨rfl, Tryd.f70, [0, 2], Tryd.func70, by decide, by decide, by decide, rfl, by decide, by decide, ⟨_, c60⟩, by kernel_rfl⟩
theorem c61 : (Tryd.f71.body.map fun c => compC (E.opt ⟨[], [], [], []⟩) Tryd.f71.ntmps [0, 1, 4, 5, 6, 7, 8, 9, 10] c) = some PI.Tr.f_internal_bytealg_IndexRabinKarp_string.code := by kernel_rfl
theorem o61 (tabs : List (Nat × Nat × Value)) (rows : List (Nat × TypeId × Nat)) (errT : Nat) : FnS E (N0 tabs rows errT) 61 PI.Tr.f_internal_bytealg_IndexRabinKarp_string := .inl ⟨rfl, Tryd.f71, [0, 1, 4, 5, 6, 7, 8, 9, 10], Tryd.func71, by decide, by decide, by decide, rfl, by decide, by decide, ⟨_, c61⟩, by kernel_rfl⟩
theorem c62 : (Tryd.f76.body.map fun c => compC (E.opt ⟨[], [], [], []⟩) Tryd.f76.ntmps [0, 2, 3, 4, 5, 6, 7, 8] c) = some PI.Tr.f_internal_bytealg_hashStr_string.code := by kernel_rfl
theorem o62 (tabs : List (Nat × Nat × Value)) (rows : List (Nat × TypeId × Nat)) (errT : Nat) : FnS E (N0 tabs rows errT) 62 PI.Tr.f_internal_bytealg_hashStr_string := .inl ⟨rfl, Tryd.f76, [0, 2, 3, 4, 5, 6, 7, 8], Tryd.func76, by decide, by decide, by decide, rfl, by decide, by decide, ⟨_, c62⟩, by kernel_rfl⟩
theorem libOk (tabs : List (Nat × Nat × Value)) (rows : List (Nat × TypeId × Nat)) (errT : Nat) (h23 : PrimOK (N0 tabs rows errT) Tryd.prog 23 pBString) (h34 : PrimOK (N0 tabs rows errT) Tryd.prog 34 pWriteString) (h35 : PrimOK (N0 tabs rows errT) Tryd.prog 35 pJoin) (h47 : PrimOK (N0 tabs rows errT) Tryd.prog 47 pItoa) (h54 : PrimOK (N0 tabs rows errT) Tryd.prog 54 pAtoi) (h59 : PrimOK (N0 tabs rows errT) Tryd.prog 59 pIndexByte) : ∀ k pf, PI.Tr.LD k = some pf → FnS E (N0 tabs rows errT) k pf := by
  intro k pf h
  unfold PI.Tr.LD at h
  split at h
  · simp only [Option.some.injEq] at h; subst h; exact o0 tabs rows errT
  · simp only [Option.some.injEq] at h; subst h; exact o1 tabs rows errT
  · simp only [Option.some.injEq] at h; subst h; exact o2 tabs rows errT
  · simp only [Option.some.injEq] at h; subst h; exact o3 tabs rows errT
  · simp only [Option.some.injEq] at h; subst h; exact o4 tabs rows errT
  · simp only [Option.some.injEq] at h; subst h; exact o5 tabs rows errT
  · simp only [Option.some.injEq] at h; subst h; exact o6 tabs rows errT
  · simp only [Option.some.injEq] at h; subst h; exact o7 tabs rows errT
  · simp only [Option.some.injEq] at h; subst h; exact o8 tabs rows errT
  · simp only [Option.some.injEq] at h; subst h; exact o9 tabs rows errT
  · simp only [Option.some.injEq] at h; subst h; exact o10 tabs rows errT
  · simp only [Option.some.injEq] at h; subst h; exact o11 tabs rows errT
  · simp only [Option.some.injEq] at h; subst h; exact o12 tabs rows errT
  · simp only [Option.some.injEq] at h; subst h; exact o13 tabs rows errT
  · simp only [Option.some.injEq] at h; subst h; exact o14 tabs rows errT
  · simp only [Option.some.injEq] at h; subst h; exact o15 tabs rows errT
  · simp only [Option.some.injEq] at h; subst h; exact o16 tabs rows errT
  · simp only [Option.some.injEq] at h; subst h; exact o17 tabs rows errT
  · simp only [Option.some.injEq] at h; subst h; exact o18 tabs rows errT
  · simp only [Option.some.injEq] at h; subst h; exact o19 tabs rows errT
  · simp only [Option.some.injEq] at h; subst h; exact o20 tabs rows errT
  · simp only [Option.some.injEq] at h; subst h; exact o21 tabs rows errT
  · simp only [Option.some.injEq] at h; subst h; exact o22 tabs rows errT
  · simp only [Option.some.injEq] at h; subst h; exact .inr ⟨_, Tryd.f28, rfl, Tryd.func28, by decide, by kernel_rfl, h23⟩
  · simp only [Option.some.injEq] at h; subst h; exact o24 tabs rows errT
  · simp only [Option.some.injEq] at h; subst h; exact o25 tabs rows errT
  · simp only [Option.some.injEq] at h; subst h; exact o26 tabs rows errT
  · simp only [Option.some.injEq] at h; subst h; exact o27 tabs rows errT
  · simp only [Option.some.injEq] at h; subst h; exact o28 tabs rows errT
  · simp only [Option.some.injEq] at h; subst h; exact o29 tabs rows errT
  · simp only [Option.some.injEq] at h; subst h; exact o30 tabs rows errT
  · simp only [Option.some.injEq] at h; subst h; exact o31 tabs rows errT
  · simp only [Option.some.injEq] at h; subst h; exact o32 tabs rows errT
  · simp only [Option.some.injEq] at h; subst h; exact o33 tabs rows errT
  · simp only [Option.some.injEq] at h; subst h; exact .inr ⟨_, Tryd.f25, rfl, Tryd.func25, by decide, by kernel_rfl, h34⟩
  · simp only [Option.some.injEq] at h; subst h; exact .inr ⟨_, Tryd.f26, rfl, Tryd.func26, by decide, by kernel_rfl, h35⟩
  · simp only [Option.some.injEq] at h; subst h; exact o36 tabs rows errT
  · simp only [Option.some.injEq] at h; subst h; exact o37 tabs rows errT
  · simp only [Option.some.injEq] at h; subst h; exact o38 tabs rows errT
  · simp only [Option.some.injEq] at h; subst h; exact o39 tabs rows errT
  · simp only [Option.some.injEq] at h; subst h; exact o40 tabs rows errT
  · simp only [Option.some.injEq] at h; subst h; exact o41 tabs rows errT
  · simp only [Option.some.injEq] at h; subst h; exact o42 tabs rows errT
  · simp only [Option.some.injEq] at h; subst h; exact o43 tabs rows errT
  · simp only [Option.some.injEq] at h; subst h; exact o44 tabs rows errT
  · simp only [Option.some.injEq] at h; subst h; exact o45 tabs rows errT
  · simp only [Option.some.injEq] at h; subst h; exact o46 tabs rows errT
  · simp only [Option.some.injEq] at h; subst h; exact .inr ⟨_, Tryd.f54, rfl, Tryd.func54, by decide, by kernel_rfl, h47⟩
  · simp only [Option.some.injEq] at h; subst h; exact o48 tabs rows errT
  · simp only [Option.some.injEq] at h; subst h; exact o49 tabs rows errT
  · simp only [Option.some.injEq] at h; subst h; exact o50 tabs rows errT
  · simp only [Option.some.injEq] at h; subst h; exact o51 tabs rows errT
  · simp only [Option.some.injEq] at h; subst h; exact o52 tabs rows errT
  · simp only [Option.some.injEq] at h; subst h; exact o53 tabs rows errT
  · simp only [Option.some.injEq] at h; subst h; exact .inr ⟨_, Tryd.f61, rfl, Tryd.func61, by decide, by kernel_rfl, h54⟩
  · simp only [Option.some.injEq] at h; subst h; exact o55 tabs rows errT
  · simp only [Option.some.injEq] at h; subst h; exact o56 tabs rows errT
  · simp only [Option.some.injEq] at h; subst h; exact o57 tabs rows errT
  · simp only [Option.some.injEq] at h; subst h; exact o58 tabs rows errT
  · simp only [Option.some.injEq] at h; subst h; exact .inr ⟨_, Tryd.f68, rfl, Tryd.func68, by decide, by kernel_rfl, h59⟩
  · simp only [Option.some.injEq] at h; subst h; exact o60 tabs rows errT
  · simp only [Option.some.injEq] at h; subst h; exact o61 tabs rows errT
  · simp only [Option.some.injEq] at h; subst h; exact o62 tabs rows errT
  · simp at h
end Go.Proofs.YtegahghjancjpaaDoor.Pi
