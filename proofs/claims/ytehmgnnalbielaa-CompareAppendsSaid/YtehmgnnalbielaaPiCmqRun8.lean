/-
  What the functions of compare come to: weighing.
-/
import Derived.Test.YtehmgnnalbielaaPiCmqRun7
set_option maxRecDepth 100000
set_option linter.unusedSimpArgs false
set_option linter.unusedVariables false
namespace PI.Cmp
open Go (IntKind BinOp UnOp)

/-- A loop of which it is only said that it ends. -/
theorem loop_any {L : Nat → Option PFunc} {Q : PExit → St → Prop} {γ : Type} {c : PC} (n : Nat) (S : Nat → γ → St)
    (step : ∀ i, i ≤ n → ∀ x, (i < n → ∀ y, wpL L (.loop c) (S (i + 1) y) Q) → wpL L c (S i x) (loopK L c Q)) (x : γ) : wpL L (.loop c) (S 0 x) Q := by
  have key : ∀ (d i : Nat), i + d = n → ∀ x, wpL L (.loop c) (S i x) Q := by
    intro d
    induction d with
    | zero => intro i hi x; rw [wpL_loop]; exact step i (by omega) x (fun h => by omega)
    | succ d ih => intro i hi x; rw [wpL_loop]; exact step i (by omega) x (fun _ => ih (i + 1) (by omega))
  exact key n 0 (by omega) x

section
variable {V l : List PV} {g : Nat} {h : List PObj}
@[simp] theorem endP_normal (rs : List PRes) (P : PV × List PObj → Prop) : endP rs P .normal ⟨V, l, g, h⟩ = ∃ v, resultV ⟨V, l, g, h⟩ rs = some v ∧ P (v, h) := by simp [endP]
@[simp] theorem endP_ret (rs : List PRes) (P : PV × List PObj → Prop) : endP rs P .ret ⟨V, l, g, h⟩ = ∃ v, resultV ⟨V, l, g, h⟩ rs = some v ∧ P (v, h) := by simp [endP]
end

/-- What comes out is an integer of a kind. -/
theorem some_int {k : Nat} {args : List PV} {h : List PObj} {R : Int → Prop} (H : ∃ r, callL L k args h = some r ∧ ∃ n : Int, r = (.int .i64 n, h) ∧ R n) : ∃ n : Int, callL L k args h = some (.int .i64 n, h) ∧ R n := by
  obtain ⟨_, h1, n, rfl, h2⟩ := H; exact ⟨n, h1, h2⟩

def Mid (n : Int) : Prop := 0 ≤ n ∧ n ≤ 200000000000000000

theorem weighDecls (l : List Decl) (o : Bool) (hl : l.length * 48 ≤ 140737488351232) (hc : ∀ d ∈ l, d.clock.length * 32 ≤ 140737488351232) (hn : ∀ d ∈ l, d.name.length ≤ 9223372036854775807) (h : List PObj) : ∃ n : Int, callL L 34 [.list o (l.map eDecl), .int .i64 600] h = some (.int .i64 n, h) ∧ Mid n := by
  refine some_int (callL_wpP rfl rfl ?_)
  simp [f_ref10_weighDecls]
  refine loop_any l.length (fun i (x : {x : Int // Mid x}) => ⟨[.list false (l.map eDecl), .int .i64 600, .int .i64 0, .int .i64 x.1, .int .i64 i], [], 0, h⟩) ?_ ⟨(l.length : Int), by unfold Mid; omega⟩
  intro i hi x ih
  obtain ⟨x, hx⟩ := x
  by_cases h1 : i < l.length
  · have h1' : (i : Int) < l.length := by omega
    have hw := wrap_succ i (by omega)
    by_cases h2 : x < 600
    · have ih := ih h1
      have hci := hc _ (List.getElem_mem h1)
      have hni := hn _ (List.getElem_mem h1)
      have w1 := wrap_i64 (x + (l[i].clock.length : Int)) (by unfold Mid at hx; omega) (by unfold Mid at hx; omega)
      have w2 := wrap_i64 ((l[i].name.length : Int) / 100) (by omega) (by omega)
      have w3 := wrap_i64 (x + (l[i].clock.length : Int) + (l[i].name.length : Int) / 100) (by unfold Mid at hx; omega) (by unfold Mid at hx; omega)
      simp [h1, h1', h2, hw, w1, w2, w3]
      exact ih ⟨_, by unfold Mid at hx ⊢; omega⟩
    · simp [h1, h1', h2]
      exact hx
  · have h1' : ¬ (i : Int) < l.length := by omega
    simp [h1, h1']
    exact hx

theorem weighEqs0 (m : Int) (h : List PObj) : callL L 35 [.list false [], .int .i64 m] h = some (.int .i64 0, h) := by
  refine callL_wp rfl rfl ?_
  simp [f_ref10_weighEqs]
  rw [f_ref10_weighEqs_l0, wpL_loop]
  simp
theorem weighExprs0 (m : Int) (h : List PObj) : callL L 36 [.list false [], .int .i64 m] h = some (.int .i64 0, h) := by
  refine callL_wp rfl rfl ?_
  simp [f_ref10_weighExprs]
  rw [f_ref10_weighExprs_l0, wpL_loop]
  simp
theorem weighAutos0 (m : Int) (h : List PObj) : callL L 37 [.list false [], .int .i64 m] h = some (.int .i64 0, h) := by
  refine callL_wp rfl rfl ?_
  simp [f_ref10_weighAutos]
  rw [f_ref10_weighAutos_l1, wpL_loop]
  simp

def eNode (l : List Decl) : PV := .agg [.str [], .list false [], .list false [], .list false (l.map eDecl), .list false [], .list false [], .list false [], .list false []]

@[simp] theorem eNode_free (l : List Decl) : refFree (eNode l) = true := by simp [eNode]

theorem weigh (l : List Decl) (hl : l.length * 48 ≤ 140737488351232) (hc : ∀ d ∈ l, d.clock.length * 32 ≤ 140737488351232) (hn : ∀ d ∈ l, d.name.length ≤ 9223372036854775807) (o : Bool) (h : List PObj) : ∃ n : Int, callL L 20 [.agg [.list o [], .list false [eNode l]], .int .i64 600] h = some (.int .i64 n, h) ∧ (0 ≤ n ∧ n ≤ 1000000000000000000) := by
  refine some_int (callL_wpP rfl rfl ?_)
  obtain ⟨n1, w1, m1⟩ := weighDecls [] false (by simp) (by simp) (by simp) []
  obtain ⟨n2, w2, m2⟩ := weighDecls l false hl hc hn []
  unfold Mid at m1 m2
  simp at w1
  have e1 : IntKind.i64.wrap 1 = 1 := by decide
  have x1 := wrap_i64 (1 + n1) (by omega) (by omega)
  have x2 := wrap_i64 (1 + n1 + n1) (by omega) (by omega)
  have x3 := wrap_i64 (1 + n1 + n1 + n2) (by omega) (by omega)
  simp [f_ref10_Weigh]
  rw [f_ref10_Weigh_l0, wpL_loop]
  simp [e1]
  rw [f_ref10_Weigh_l1, wpL_loop]
  simp [eNode, e1, w1, w2, weighEqs0, weighExprs0, weighAutos0, x1, x2, x3]
  rw [wpL_loop]
  simp
  omega

def val (w : Int) (rows : List Row) (i : Nat) : Int := w + rows.length + (((rows.take i).map List.length).sum : Nat)
theorem val_zero (w : Int) (rows : List Row) : val w rows 0 = w + rows.length := by simp [val]
theorem val_succ (w : Int) (rows : List Row) (i : Nat) (h : i < rows.length) : val w rows (i + 1) = val w rows i + (rows[i].length : Int) := by
  unfold val
  rw [take_succ' h, List.map_append, List.sum_append]
  simp
  omega
theorem val_ge (w : Int) (rows : List Row) (i : Nat) : w + rows.length ≤ val w rows i := by unfold val; omega
theorem sum_mem : ∀ {rows : List Row} {r : Row}, r ∈ rows → r.length ≤ (rows.map List.length).sum
  | [], r, h => by simp at h
  | x :: xs, r, h => by
    simp only [List.map_cons, List.sum_cons]
    rcases List.mem_cons.1 h with rfl | h
    · omega
    · have := sum_mem h; omega
theorem val_end (w : Int) (rows : List Row) (h0 : 0 ≤ w) (h : val w rows rows.length < 2000) : rows.length < 2000 ∧ ∀ r ∈ rows, r.length < 2000 := by
  unfold val at h
  rw [List.take_length] at h
  refine ⟨by omega, fun r hr => ?_⟩
  have := sum_mem hr
  omega

/-- What is not huge. -/
structure Slim (t : Trace) : Prop where
  c : t.cols.length ≤ 200
  r : t.rows.length < 2000
  rs : ∀ r ∈ t.rows, r.length < 2000

/-- What can be reached. -/
structure Far (t : Trace) : Prop where
  c : t.cols.length * 48 ≤ 140737488351232
  r : t.rows.length * 24 ≤ 140737488351232
  cs : ∀ d ∈ t.cols, d.clock.length * 32 ≤ 140737488351232
  ns : ∀ d ∈ t.cols, d.name.length ≤ 9223372036854775807
  rs : ∀ r ∈ t.rows, r.length * 16 ≤ 140737488351232
theorem Far.ok {t : Trace} (h : Far t) : TraceOk t :=
  ⟨by have := h.c; unfold Len; omega, by have := h.r; unfold Len; omega, fun d hd => by have := h.cs d hd; unfold Len; omega, fun r hr => by have := h.rs r hr; unfold Len; omega⟩

theorem huge (t : Trace) (ht : Far t) (h : List PObj) : ∃ b : Bool, callL L 4 [eTrace t] h = some (.bool b, h) ∧ (b = false → Slim t) := by
  obtain ⟨w, hw, hw0, hw1⟩ := weigh t.cols ht.c ht.cs ht.ns true []
  have hn : PV.agg [.str [], .list false [], .list false [], .list false (t.cols.map eDecl), .list false [], .list false [], .list false [], .list false []] = eNode t.cols := rfl
  have htr := ht.r
  have w1 := wrap_i64 (w + (t.rows.length : Int)) (by omega) (by omega)
  have H : ∃ r, callL L 4 [eTrace t] h = some r ∧ ∃ b : Bool, r = (.bool b, h) ∧ (b = false → Slim t) := by
    refine callL_wpP rfl rfl ?_
    simp [f_law44_huge, setParts, hn, hw, w1]
    rw [← val_zero w t.rows]
    refine loop_any t.rows.length (fun i (x : Unit) => ⟨[eTrace t, .loc 0 [.list false (t.cols.map eDecl), .list false (t.rows.map eRow)], .bool false, .int .i64 (val w t.rows i), .int .i64 i], [], 1, h⟩) ?_ ()
    intro i hi x ih
    have hv0 := val_ge w t.rows i
    by_cases h1 : i < t.rows.length
    · have h1' : (i : Int) < t.rows.length := by omega
      have hws := wrap_succ i (by omega)
      by_cases h2 : val w t.rows i < 2000
      · have ih := ih h1 ()
        rw [val_succ w t.rows i h1] at ih
        have hr1 := ht.rs _ (List.getElem_mem h1)
        have w2 := wrap_i64 (val w t.rows i + (t.rows[i].length : Int)) (by omega) (by omega)
        simp [h1, h1', h2, hws, eRow, w2]
        exact ih
      · have h3 : 2000 ≤ val w t.rows i := by omega
        simp [h1, h1', h2, h3]
    · have h1' : ¬ (i : Int) < t.rows.length := by omega
      have hin : i = t.rows.length := by omega
      by_cases h3 : val w t.rows i < 2000
      · have h4 : ¬ 2000 ≤ val w t.rows i := by omega
        obtain ⟨e1, e2⟩ := val_end w t.rows hw0 (hin ▸ h3)
        by_cases h5 : 200 < (t.cols.length : Int)
        · have h6 : 200 < t.cols.length := by omega
          simp [h1, h1', h3, h4, h5, h6]
        · have h6 : ¬ 200 < t.cols.length := by omega
          have h7 : Slim t := ⟨by omega, e1, e2⟩
          simp [h1, h1', h3, h4, h5, h6, h7]
      · have h4 : 2000 ≤ val w t.rows i := by omega
        simp [h1, h1', h3, h4]
  obtain ⟨_, h1, b, rfl, h2⟩ := H
  exact ⟨b, h1, h2⟩

end PI.Cmp
