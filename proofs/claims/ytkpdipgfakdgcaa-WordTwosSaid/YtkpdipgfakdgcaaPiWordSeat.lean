/-
  The functions stand in the translated program. Written by program (mk.py).
-/
import Derived.Test.YtkpdipgfakdgcaaChecked
import Derived.Test.YtkpdipgfakdgcaaPiLaw2
import Derived.Test.YtkpdipgfakdgcaaPiWordCode
import Derived.KernelRfl
set_option maxRecDepth 100000
namespace Go.Proofs.Ytkpdipgfakdgcaa.Pi
open Go PI

def tab : List Nat := [3, 4, 5, 6, 7, 8, 9, 10, 11, 12, 13, 14, 15, 16, 17, 18, 19, 20, 21, 22, 23, 24, 25, 26, 27, 28, 29, 30]
noncomputable def E : Env := { P := Try.prog, inv := fun f => idxIn f tab 0, tinv := fun _ => none }
def N : Nm := { fn := fun k => tab.getD k 0, ty := fun t => t }
theorem envOk : EnvOk E N := ⟨fun f k h => by
  obtain ⟨_, h2⟩ := idxIn_some (show idxIn f tab 0 = some k from h)
  show tab.getD k 0 = f
  rw [List.getD_eq_getElem?_getD, show tab[k]? = some f by simpa using h2]; rfl⟩
theorem mixed : Try.prog.follows .mixedOrders = true := by kernel_rfl

theorem c0 : (Try.f3.body.bind fun c => compC E Try.f3.ntmps [0, 1, 4, 5] c) = some PI.Word.f_law01_WordBits.code := by kernel_rfl
theorem o0 : FnC E N 0 PI.Word.f_law01_WordBits Try.f3 [0, 1, 4, 5] := ⟨Try.func3, by decide, by decide, by decide, rfl, by decide, by decide, c0, by kernel_rfl⟩
theorem c1 : (Try.f4.body.bind fun c => compC E Try.f4.ntmps [0, 1, 4, 5, 6, 7, 8] c) = some PI.Word.f_law01_WordDivides.code := by kernel_rfl
theorem o1 : FnC E N 1 PI.Word.f_law01_WordDivides Try.f4 [0, 1, 4, 5, 6, 7, 8] := ⟨Try.func4, by decide, by decide, by decide, rfl, by decide, by decide, c1, by kernel_rfl⟩
theorem c2 : (Try.f5.body.bind fun c => compC E Try.f5.ntmps [0, 2] c) = some PI.Word.f_law01_WordOnes.code := by kernel_rfl
theorem o2 : FnC E N 2 PI.Word.f_law01_WordOnes Try.f5 [0, 2] := ⟨Try.func5, by decide, by decide, by decide, rfl, by decide, by decide, c2, by kernel_rfl⟩
theorem c3 : (Try.f6.body.bind fun c => compC E Try.f6.ntmps [0, 1, 4] c) = some PI.Word.f_law01_WordTwos.code := by kernel_rfl
theorem o3 : FnC E N 3 PI.Word.f_law01_WordTwos Try.f6 [0, 1, 4] := ⟨Try.func6, by decide, by decide, by decide, rfl, by decide, by decide, c3, by kernel_rfl⟩
theorem c4 : (Try.f7.body.bind fun c => compC E Try.f7.ntmps [0, 2, 3, 4, 5] c) = some PI.Word.f_law01_WordTurns.code := by kernel_rfl
theorem o4 : FnC E N 4 PI.Word.f_law01_WordTurns Try.f7 [0, 2, 3, 4, 5] := ⟨Try.func7, by decide, by decide, by decide, rfl, by decide, by decide, c4, by kernel_rfl⟩
theorem c5 : (Try.f8.body.bind fun c => compC E Try.f8.ntmps [0, 1, 4, 5, 6, 7, 8, 9, 10] c) = some PI.Word.f_law01_WordCongruent.code := by kernel_rfl
theorem o5 : FnC E N 5 PI.Word.f_law01_WordCongruent Try.f8 [0, 1, 4, 5, 6, 7, 8, 9, 10] := ⟨Try.func8, by decide, by decide, by decide, rfl, by decide, by decide, c5, by kernel_rfl⟩
theorem c6 : (Try.f9.body.bind fun c => compC E Try.f9.ntmps [0, 2, 3, 4, 7, 8] c) = some PI.Word.f_word_Of.code := by kernel_rfl
theorem o6 : FnC E N 6 PI.Word.f_word_Of Try.f9 [0, 2, 3, 4, 7, 8] := ⟨Try.func9, by decide, by decide, by decide, rfl, by decide, by decide, c6, by kernel_rfl⟩
theorem c7 : (Try.f10.body.bind fun c => compC E Try.f10.ntmps [0, 2, 3, 4, 5] c) = some PI.Word.f_ref01_Of.code := by kernel_rfl
theorem o7 : FnC E N 7 PI.Word.f_ref01_Of Try.f10 [0, 2, 3, 4, 5] := ⟨Try.func10, by decide, by decide, by decide, rfl, by decide, by decide, c7, by kernel_rfl⟩
theorem c8 : (Try.f11.body.bind fun c => compC E Try.f11.ntmps [0, 2, 3, 4, 5, 8] c) = some PI.Word.f_word_Bits.code := by kernel_rfl
theorem o8 : FnC E N 8 PI.Word.f_word_Bits Try.f11 [0, 2, 3, 4, 5, 8] := ⟨Try.func11, by decide, by decide, by decide, rfl, by decide, by decide, c8, by kernel_rfl⟩
theorem c9 : (Try.f12.body.bind fun c => compC E Try.f12.ntmps [0, 2] c) = some PI.Word.f_word_Wrap.code := by kernel_rfl
theorem o9 : FnC E N 9 PI.Word.f_word_Wrap Try.f12 [0, 2] := ⟨Try.func12, by decide, by decide, by decide, rfl, by decide, by decide, c9, by kernel_rfl⟩
theorem c10 : (Try.f13.body.bind fun c => compC E Try.f13.ntmps [0, 1] c) = some PI.Word.f_law01_awake.code := by kernel_rfl
theorem o10 : FnC E N 10 PI.Word.f_law01_awake Try.f13 [0, 1] := ⟨Try.func13, by decide, by decide, by decide, rfl, by decide, by decide, c10, by kernel_rfl⟩
theorem c11 : (Try.f14.body.bind fun c => compC E Try.f14.ntmps [0, 1, 4, 5] c) = some PI.Word.f_law01_same.code := by kernel_rfl
theorem o11 : FnC E N 11 PI.Word.f_law01_same Try.f14 [0, 1, 4, 5] := ⟨Try.func14, by decide, by decide, by decide, rfl, by decide, by decide, c11, by kernel_rfl⟩
theorem c12 : (Try.f15.body.bind fun c => compC E Try.f15.ntmps [0, 1, 4] c) = some PI.Word.f_word_Div.code := by kernel_rfl
theorem o12 : FnC E N 12 PI.Word.f_word_Div Try.f15 [0, 1, 4] := ⟨Try.func15, by decide, by decide, by decide, rfl, by decide, by decide, c12, by kernel_rfl⟩
theorem c13 : (Try.f16.body.bind fun c => compC E Try.f16.ntmps [0, 1, 4] c) = some PI.Word.f_word_Mod.code := by kernel_rfl
theorem o13 : FnC E N 13 PI.Word.f_word_Mod Try.f16 [0, 1, 4] := ⟨Try.func16, by decide, by decide, by decide, rfl, by decide, by decide, c13, by kernel_rfl⟩
theorem c14 : (Try.f17.body.bind fun c => compC E Try.f17.ntmps [0, 1, 4] c) = some PI.Word.f_word_Add.code := by kernel_rfl
theorem o14 : FnC E N 14 PI.Word.f_word_Add Try.f17 [0, 1, 4] := ⟨Try.func17, by decide, by decide, by decide, rfl, by decide, by decide, c14, by kernel_rfl⟩
theorem c15 : (Try.f18.body.bind fun c => compC E Try.f18.ntmps [0, 1, 4] c) = some PI.Word.f_word_Mul.code := by kernel_rfl
theorem o15 : FnC E N 15 PI.Word.f_word_Mul Try.f18 [0, 1, 4] := ⟨Try.func18, by decide, by decide, by decide, rfl, by decide, by decide, c15, by kernel_rfl⟩
theorem c16 : (Try.f19.body.bind fun c => compC E Try.f19.ntmps [0, 2] c) = some PI.Word.f_word_In.code := by kernel_rfl
theorem o16 : FnC E N 16 PI.Word.f_word_In Try.f19 [0, 2] := ⟨Try.func19, by decide, by decide, by decide, rfl, by decide, by decide, c16, by kernel_rfl⟩
theorem c17 : (Try.f20.body.bind fun c => compC E Try.f20.ntmps [0, 2] c) = some PI.Word.f_ref01_In.code := by kernel_rfl
theorem o17 : FnC E N 17 PI.Word.f_ref01_In Try.f20 [0, 2] := ⟨Try.func20, by decide, by decide, by decide, rfl, by decide, by decide, c17, by kernel_rfl⟩
theorem c18 : (Try.f21.body.bind fun c => compC E Try.f21.ntmps [0, 2, 3] c) = some PI.Word.f_ref01_Wrap.code := by kernel_rfl
theorem o18 : FnC E N 18 PI.Word.f_ref01_Wrap Try.f21 [0, 2, 3] := ⟨Try.func21, by decide, by decide, by decide, rfl, by decide, by decide, c18, by kernel_rfl⟩
theorem c19 : (Try.f22.body.bind fun c => compC E Try.f22.ntmps [0, 2] c) = some PI.Word.f_word_Neg.code := by kernel_rfl
theorem o19 : FnC E N 19 PI.Word.f_word_Neg Try.f22 [0, 2] := ⟨Try.func22, by decide, by decide, by decide, rfl, by decide, by decide, c19, by kernel_rfl⟩
theorem c20 : (Try.f23.body.bind fun c => compC E Try.f23.ntmps [0, 2] c) = some PI.Word.f_ref01_Neg.code := by kernel_rfl
theorem o20 : FnC E N 20 PI.Word.f_ref01_Neg Try.f23 [0, 2] := ⟨Try.func23, by decide, by decide, by decide, rfl, by decide, by decide, c20, by kernel_rfl⟩
theorem c21 : (Try.f24.body.bind fun c => compC E Try.f24.ntmps [0, 2, 3, 4, 5] c) = some PI.Word.f_ref01_Bits.code := by kernel_rfl
theorem o21 : FnC E N 21 PI.Word.f_ref01_Bits Try.f24 [0, 2, 3, 4, 5] := ⟨Try.func24, by decide, by decide, by decide, rfl, by decide, by decide, c21, by kernel_rfl⟩
theorem c22 : (Try.f25.body.bind fun c => compC E Try.f25.ntmps [0, 1, 4] c) = some PI.Word.f_ref01_Add.code := by kernel_rfl
theorem o22 : FnC E N 22 PI.Word.f_ref01_Add Try.f25 [0, 1, 4] := ⟨Try.func25, by decide, by decide, by decide, rfl, by decide, by decide, c22, by kernel_rfl⟩
theorem c23 : (Try.f26.body.bind fun c => compC E Try.f26.ntmps [0, 1, 4] c) = some PI.Word.f_word_Sub.code := by kernel_rfl
theorem o23 : FnC E N 23 PI.Word.f_word_Sub Try.f26 [0, 1, 4] := ⟨Try.func26, by decide, by decide, by decide, rfl, by decide, by decide, c23, by kernel_rfl⟩
theorem c24 : (Try.f27.body.bind fun c => compC E Try.f27.ntmps [0, 1, 4] c) = some PI.Word.f_ref01_Sub.code := by kernel_rfl
theorem o24 : FnC E N 24 PI.Word.f_ref01_Sub Try.f27 [0, 1, 4] := ⟨Try.func27, by decide, by decide, by decide, rfl, by decide, by decide, c24, by kernel_rfl⟩
theorem c25 : (Try.f28.body.bind fun c => compC E Try.f28.ntmps [0, 1, 4] c) = some PI.Word.f_ref01_Mul.code := by kernel_rfl
theorem o25 : FnC E N 25 PI.Word.f_ref01_Mul Try.f28 [0, 1, 4] := ⟨Try.func28, by decide, by decide, by decide, rfl, by decide, by decide, c25, by kernel_rfl⟩
theorem c26 : (Try.f29.body.bind fun c => compC E Try.f29.ntmps [0, 1, 4] c) = some PI.Word.f_ref01_Div.code := by kernel_rfl
theorem o26 : FnC E N 26 PI.Word.f_ref01_Div Try.f29 [0, 1, 4] := ⟨Try.func29, by decide, by decide, by decide, rfl, by decide, by decide, c26, by kernel_rfl⟩
theorem c27 : (Try.f30.body.bind fun c => compC E Try.f30.ntmps [0, 1, 4] c) = some PI.Word.f_ref01_Mod.code := by kernel_rfl
theorem o27 : FnC E N 27 PI.Word.f_ref01_Mod Try.f30 [0, 1, 4] := ⟨Try.func30, by decide, by decide, by decide, rfl, by decide, by decide, c27, by kernel_rfl⟩
theorem libOk : ∀ k pf, PI.Word.L k = some pf → ∃ fn vs, FnC E N k pf fn vs := by
  intro k pf h
  unfold PI.Word.L at h
  split at h
  · simp only [Option.some.injEq] at h; subst h; exact ⟨_, _, o0⟩
  · simp only [Option.some.injEq] at h; subst h; exact ⟨_, _, o1⟩
  · simp only [Option.some.injEq] at h; subst h; exact ⟨_, _, o2⟩
  · simp only [Option.some.injEq] at h; subst h; exact ⟨_, _, o3⟩
  · simp only [Option.some.injEq] at h; subst h; exact ⟨_, _, o4⟩
  · simp only [Option.some.injEq] at h; subst h; exact ⟨_, _, o5⟩
  · simp only [Option.some.injEq] at h; subst h; exact ⟨_, _, o6⟩
  · simp only [Option.some.injEq] at h; subst h; exact ⟨_, _, o7⟩
  · simp only [Option.some.injEq] at h; subst h; exact ⟨_, _, o8⟩
  · simp only [Option.some.injEq] at h; subst h; exact ⟨_, _, o9⟩
  · simp only [Option.some.injEq] at h; subst h; exact ⟨_, _, o10⟩
  · simp only [Option.some.injEq] at h; subst h; exact ⟨_, _, o11⟩
  · simp only [Option.some.injEq] at h; subst h; exact ⟨_, _, o12⟩
  · simp only [Option.some.injEq] at h; subst h; exact ⟨_, _, o13⟩
  · simp only [Option.some.injEq] at h; subst h; exact ⟨_, _, o14⟩
  · simp only [Option.some.injEq] at h; subst h; exact ⟨_, _, o15⟩
  · simp only [Option.some.injEq] at h; subst h; exact ⟨_, _, o16⟩
  · simp only [Option.some.injEq] at h; subst h; exact ⟨_, _, o17⟩
  · simp only [Option.some.injEq] at h; subst h; exact ⟨_, _, o18⟩
  · simp only [Option.some.injEq] at h; subst h; exact ⟨_, _, o19⟩
  · simp only [Option.some.injEq] at h; subst h; exact ⟨_, _, o20⟩
  · simp only [Option.some.injEq] at h; subst h; exact ⟨_, _, o21⟩
  · simp only [Option.some.injEq] at h; subst h; exact ⟨_, _, o22⟩
  · simp only [Option.some.injEq] at h; subst h; exact ⟨_, _, o23⟩
  · simp only [Option.some.injEq] at h; subst h; exact ⟨_, _, o24⟩
  · simp only [Option.some.injEq] at h; subst h; exact ⟨_, _, o25⟩
  · simp only [Option.some.injEq] at h; subst h; exact ⟨_, _, o26⟩
  · simp only [Option.some.injEq] at h; subst h; exact ⟨_, _, o27⟩
  · simp at h
end Go.Proofs.Ytkpdipgfakdgcaa.Pi
