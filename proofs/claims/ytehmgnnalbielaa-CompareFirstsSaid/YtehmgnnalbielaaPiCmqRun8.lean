/-
  What the functions of compare come to: weighing.
-/
import Derived.Test.YtehmgnnalbielaaPiCmqRun7
set_option maxRecDepth 100000
set_option linter.unusedSimpArgs false
set_option linter.unusedVariables false
namespace PI.Cmp
open Go (IntKind BinOp UnOp)

/-- A loop of which it is only said that it ends. -/
theorem loop_any {L : Nat → Option PFunc} {Q : PExit → St → Prop} {γ : Type} {c : PC} (n : Nat) (S : Nat → γ → St)
    (step : ∀ i, i ≤ n → ∀ x, (i < n → ∀ y, wpL L (.loop c) (S (i + 1) y) Q) → wpL L c (S i x) (loopK L c Q)) (x : γ) : wpL L (.loop c) (S 0 x) Q := by
  have key : ∀ (d i : Nat), i + d = n → ∀ x, wpL L (.loop c) (S i x) Q := by
    intro d
    induction d with
    | zero => intro i hi x; rw [wpL_loop]; exact step i (by omega) x (fun h => by omega)
    | succ d ih => intro i hi x; rw [wpL_loop]; exact step i (by omega) x (fun _ => ih (i + 1) (by omega))
  exact key n 0 (by omega) x

section
variable {V l : List PV} {g : Nat} {h : List PObj}
@[simp] theorem endP_normal (rs : List PRes) (P : PV × List PObj → Prop) : endP rs P .normal ⟨V, l, g, h⟩ = ∃ v, resultV ⟨V, l, g, h⟩ rs = some v ∧ P (v, h) := by simp [endP]
@[simp] theorem endP_ret (rs : List PRes) (P : PV × List PObj → Prop) : endP rs P .ret ⟨V, l, g, h⟩ = ∃ v, resultV ⟨V, l, g, h⟩ rs = some v ∧ P (v, h) := by simp [endP]
end

theorem some_int {k : Nat} {args : List PV} {h : List PObj} (H : ∃ r, callL L k args h = some r ∧ ∃ n : Int, r = (.int .i64 n, h)) : ∃ n : Int, callL L k args h = some (.int .i64 n, h) := by
  obtain ⟨_, h1, n, rfl⟩ := H; exact ⟨n, h1⟩

theorem weighDecls (l : List Decl) (o : Bool) (m : Int) (hl : Len l.length) (h : List PObj) : ∃ n : Int, callL L 34 [.list o (l.map eDecl), .int .i64 m] h = some (.int .i64 n, h) := by
  refine some_int (callL_wpP rfl rfl ?_)
  simp [f_ref10_weighDecls]
  refine loop_any l.length (fun i (x : Int) => ⟨[.list false (l.map eDecl), .int .i64 m, .int .i64 0, .int .i64 x, .int .i64 i], [], 0, h⟩) ?_ (l.length : Int)
  intro i hi x ih
  by_cases h1 : i < l.length
  · have h1' : (i : Int) < l.length := by omega
    have hw := wrap_succ i (by unfold Len at hl; omega)
    by_cases h2 : x < m
    · have ih := ih h1
      simp [h1, h1', h2, hw]
      exact ih _
    · simp [h1, h1', h2]
  · have h1' : ¬ (i : Int) < l.length := by omega
    simp [h1, h1']

theorem weighEqs0 (m : Int) (h : List PObj) : callL L 35 [.list false [], .int .i64 m] h = some (.int .i64 0, h) := by
  refine callL_wp rfl rfl ?_
  simp [f_ref10_weighEqs]
  rw [f_ref10_weighEqs_l0, wpL_loop]
  simp
theorem weighExprs0 (m : Int) (h : List PObj) : callL L 36 [.list false [], .int .i64 m] h = some (.int .i64 0, h) := by
  refine callL_wp rfl rfl ?_
  simp [f_ref10_weighExprs]
  rw [f_ref10_weighExprs_l0, wpL_loop]
  simp
theorem weighAutos0 (m : Int) (h : List PObj) : callL L 37 [.list false [], .int .i64 m] h = some (.int .i64 0, h) := by
  refine callL_wp rfl rfl ?_
  simp [f_ref10_weighAutos]
  rw [f_ref10_weighAutos_l1, wpL_loop]
  simp

def eNode (l : List Decl) : PV := .agg [.str [], .list false [], .list false [], .list false (l.map eDecl), .list false [], .list false [], .list false [], .list false []]

@[simp] theorem eNode_free (l : List Decl) : refFree (eNode l) = true := by simp [eNode]

theorem weigh (l : List Decl) (hl : Len l.length) (o : Bool) (h : List PObj) : ∃ n : Int, callL L 20 [.agg [.list o [], .list false [eNode l]], .int .i64 600] h = some (.int .i64 n, h) := by
  refine some_int (callL_wpP rfl rfl ?_)
  obtain ⟨n1, w1⟩ := weighDecls [] false 600 (by simp [Len]) []
  obtain ⟨n2, w2⟩ := weighDecls l false 600 hl []
  simp at w1
  have e1 : IntKind.i64.wrap 1 = 1 := by decide
  simp [f_ref10_Weigh]
  rw [f_ref10_Weigh_l0, wpL_loop]
  simp [e1]
  rw [f_ref10_Weigh_l1, wpL_loop]
  simp [eNode, e1, w1, w2, weighEqs0, weighExprs0, weighAutos0]
  split
  · rw [wpL_loop]
    simp
    try (split <;> simp)
  · rw [wpL_loop]
    try simp

theorem huge (t : Trace) (hc : Len t.cols.length) (hr : Len t.rows.length) (h : List PObj) : ∃ b : Bool, callL L 4 [eTrace t] h = some (.bool b, h) ∧ (b = false → t.cols.length ≤ 200) := by
  obtain ⟨w, hw⟩ := weigh t.cols hc true []
  have hn : PV.agg [.str [], .list false [], .list false [], .list false (t.cols.map eDecl), .list false [], .list false [], .list false [], .list false []] = eNode t.cols := rfl
  have H : ∃ r, callL L 4 [eTrace t] h = some r ∧ ∃ b : Bool, r = (.bool b, h) ∧ (b = false → t.cols.length ≤ 200) := by
    refine callL_wpP rfl rfl ?_
    simp [f_law44_huge, setParts, hn, hw]
    refine loop_any t.rows.length (fun i (x : Int) => ⟨[eTrace t, .loc 0 [.list false (t.cols.map eDecl), .list false (t.rows.map eRow)], .bool false, .int .i64 x, .int .i64 i], [], 1, h⟩) ?_ _
    intro i hi x ih
    by_cases h1 : i < t.rows.length
    · have h1' : (i : Int) < t.rows.length := by omega
      have hw := wrap_succ i (by unfold Len at hr; omega)
      by_cases h2 : x < 2000
      · have ih := ih h1
        simp [h1, h1', h2, hw, eRow]
        exact ih _
      · have h3 : 2000 ≤ x := by omega
        simp [h1, h1', h2, h3]
    · have h1' : ¬ (i : Int) < t.rows.length := by omega
      by_cases h3 : x < 2000
      · have h4 : ¬ 2000 ≤ x := by omega
        by_cases h5 : 200 < (t.cols.length : Int)
        · have h6 : 200 < t.cols.length := by omega
          simp [h1, h1', h3, h4, h5, h6]
        · have h6 : ¬ 200 < t.cols.length := by omega
          have h7 : t.cols.length ≤ 200 := by omega
          simp [h1, h1', h3, h4, h5, h6, h7]
      · have h4 : 2000 ≤ x := by omega
        simp [h1, h1', h3, h4]
  obtain ⟨_, h1, b, rfl, h2⟩ := H
  exact ⟨b, h1, h2⟩

end PI.Cmp
