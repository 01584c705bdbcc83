/-
  What the functions of compare come to: the examples.
-/
import Derived.Test.YtehmgnnalbielaaPiCmqRun8
set_option maxRecDepth 100000
set_option linter.unusedSimpArgs false
set_option linter.unusedVariables false
namespace PI.Cmp
open Go (IntKind BinOp UnOp)

def one (s : List UInt8) (l : List Int) : Trace := ⟨[⟨s, 2, []⟩], l.map fun n => [⟨1, n⟩]⟩
theorem one_ok (s : List UInt8) (l : List Int) (hl : Len l.length) : TraceOk (one s l) := by
  refine ⟨by simp [one, Len], by simpa [one] using hl, ?_, ?_⟩
  · intro d hd; simp [one] at hd; subst hd; simp [Len]
  · intro r hr; simp [one] at hr; obtain ⟨n, _, rfl⟩ := hr; simp [Len]

def kx : List UInt8 := [120]
def ky : List UInt8 := [121]
theorem f1 : first (one kx [1, 2]) (one kx [1, 3]) = some (1, kx) := by decide
theorem f2 : first (one kx [1, 2]) (one kx [1]) = some (1, kx) := by decide
theorem f3 : first (one kx [1]) (one ky [2]) = none := by decide
theorem a1 : append (one kx [1, 2]) (one kx [3]) = (one kx [1, 2, 3], 0) := by decide
theorem p1 : project (one kx [1]) [ky] = (noTrace, 6) := by decide
theorem i1 : isPrefix (one kx [1]) (one kx [1, 2, 3]) = true := by decide

theorem col (s : List UInt8) (l : List Int) (hl : l.length ≤ 2147483647) : callL L 21 [.str s, .list false (l.map (PV.int .i64))] [] = some (eTrace (one s l), []) := column_run s l false hl []
theorem fst1 (s u : List UInt8) (l k : List Int) (hl : l.length ≤ 2147483647) (hk : k.length ≤ 2147483647) (h : List PObj) : ∃ h', callL L 11 [eTrace (one s l), eTrace (one u k)] h = some (eFirst (first (one s l) (one u k)), h') :=
  pFirst (one s l) (one u k) (by simp [one]) (by simp [one, Len]) (one_ok s l (by unfold Len; omega)).r (one_ok u k (by unfold Len; omega)).r (one_ok s l (by unfold Len; omega)).rs (one_ok u k (by unfold Len; omega)).rs h

theorem awake (h : List PObj) : callL L 5 [] h = some (.bool true, h) := by
  have c12 := col kx [1, 2] (by simp)
  have c13 := col kx [1, 3] (by simp)
  have c1 := col kx [1] (by simp)
  have y2 := col ky [2] (by simp)
  have c3 := col kx [3] (by simp)
  have c123 := col kx [1, 2, 3] (by simp)
  obtain ⟨h1, e1⟩ := fst1 kx kx [1, 2] [1, 3] (by simp) (by simp) []
  obtain ⟨h2, e2⟩ := fst1 kx kx [1, 2] [1] (by simp) (by simp) []
  obtain ⟨h3, e3⟩ := fst1 kx ky [1] [2] (by simp) (by simp) []
  rw [f1] at e1
  rw [f2] at e2
  rw [f3] at e3
  have e4 := pAppend (one kx [1, 2]) (one kx [3]) (one_ok _ _ (by simp [Len])) (one_ok _ _ (by simp [Len])) (by simp [one]) (by simp [one]) (by intro d hd; simp [one] at hd; subst hd; simp) (by intro r hr; simp [one] at hr; rcases hr with rfl | rfl <;> simp) (by intro r hr; simp [one] at hr; subst hr; simp) []
  rw [a1] at e4
  have e5 := pProject (one kx [1]) [ky] false (by simp) (by simp [one, Len]) (by intro d hd; simp [one] at hd; subst hd; simp) (by simp [one]) (one_ok _ _ (by simp [Len])).rs []
  rw [p1] at e5
  have e6 := pSame (one kx [1, 2, 3]) (one kx [1, 2, 3]) (one_ok _ _ (by simp [Len])) (one_ok _ _ (by simp [Len])) []
  have e7 := pPrefix (one kx [1]) (one kx [1, 2, 3]) (one_ok _ _ (by simp [Len])) (one_ok _ _ (by simp [Len])) []
  rw [i1] at e7
  simp only [List.map_cons, List.map_nil] at c12 c13 c1 y2 c3 c123 e5
  simp only [eFirst, eErr, kx, ky] at c12 c13 c1 y2 c3 c123 e1 e2 e3 e4 e5 e6 e7
  refine callL_wp rfl rfl ?_
  simp [f_law44_awake, c12, c13, c1, y2, c3, c123, e1, e2, e3, e4, e5, e6, e7]

end PI.Cmp
