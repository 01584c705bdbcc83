/-
  What the small functions of compare come to.
-/
import Derived.Test.YtehmgnnalbielaaPiCmqData
import Derived.Test.YtehmgnnalbielaaPiCmpCode
set_option maxRecDepth 100000
set_option linter.unusedSimpArgs false
set_option linter.unusedVariables false
namespace PI.Cmp
open Go (IntKind BinOp UnOp)

abbrev Len (n : Nat) : Prop := n ≤ 9223372036854775807

theorem list_eq {α : Type} {a b : List α} (hl : a.length = b.length) (h : ∀ k, k < a.length → a[k]? = b[k]?) : a = b := by
  apply List.ext_getElem?
  intro k
  by_cases hk : k < a.length
  · exact h k hk
  · rw [List.getElem?_eq_none (by omega), List.getElem?_eq_none (by omega)]
theorem list_ne {α : Type} {a b : List α} {k : Nat} (h : ¬ a[k]? = b[k]?) : ¬ a = b := fun e => h (by rw [e])
theorem Decl.ext_iff' {x y : Decl} : x = y ↔ x.name = y.name ∧ x.type = y.type ∧ x.clock = y.clock := by
  cases x; cases y; simp

theorem eqOn (a b : List On) (o o' : Bool) (ha : Len a.length) (hb : Len b.length) (h : List PObj) : callL L 40 [.list o (a.map eOn), .list o' (b.map eOn)] h = some (.bool (decide (a = b)), h) := by
  refine callL_wp rfl rfl ?_
  by_cases hl : a.length = b.length
  · simp [f_slices_Equal_api_On, hl]
    refine loop_all b.length (fun i => decide (a[i]? = b[i]?)) (fun i (x : PV) => ⟨[.list false (a.map eOn), .list false (b.map eOn), .bool false, x, .int .i64 b.length, .int .i64 i], [], 0, h⟩) ?_ ?_ ?_ .dead
    · intro i hi hok x ih
      have hw := wrap_succ i (by unfold Len at hb; omega)
      have hia : i < a.length := by omega
      simp [hia, hi] at hok

      simp [hia, hi, hok, hw, hl]
      exact ih _
    · intro i hi hok _ x
      have hia : i < a.length := by omega
      have hne := list_ne (of_decide_eq_false hok)
      simp [hia, hi] at hok

      simp [hia, hi, hok, hl, hne]
    · intro hok x
      have e := list_eq hl (fun k hk => of_decide_eq_true (hok k (by omega)))
      simp [e]
  · have : ¬ (a.length : Int) = b.length := by omega
    have hne : ¬ a = b := by rintro rfl; exact hl rfl
    simp [f_slices_Equal_api_On, this, hne]

theorem eqCell (a b : List Cell) (o o' : Bool) (ha : Len a.length) (hb : Len b.length) (h : List PObj) : callL L 43 [.list o (a.map eCell), .list o' (b.map eCell)] h = some (.bool (decide (a = b)), h) := by
  refine callL_wp rfl rfl ?_
  by_cases hl : a.length = b.length
  · simp [f_slices_Equal_api_Cell, hl]
    refine loop_all b.length (fun i => decide (a[i]? = b[i]?)) (fun i (x : PV) => ⟨[.list false (a.map eCell), .list false (b.map eCell), .bool false, x, .int .i64 b.length, .int .i64 i], [], 0, h⟩) ?_ ?_ ?_ .dead
    · intro i hi hok x ih
      have hw := wrap_succ i (by unfold Len at hb; omega)
      have hia : i < a.length := by omega
      simp [hia, hi] at hok

      simp [hia, hi, hok, hw, hl]
      exact ih _
    · intro i hi hok _ x
      have hia : i < a.length := by omega
      have hne := list_ne (of_decide_eq_false hok)
      simp [hia, hi] at hok

      simp [hia, hi, hok, hl, hne]
    · intro hok x
      have e := list_eq hl (fun k hk => of_decide_eq_true (hok k (by omega)))
      simp [e]
  · have : ¬ (a.length : Int) = b.length := by omega
    have hne : ¬ a = b := by rintro rfl; exact hl rfl
    simp [f_slices_Equal_api_Cell, this, hne]

theorem clocks (a b : List On) (o o' : Bool) (ha : Len a.length) (hb : Len b.length) (h : List PObj) : callL L 44 [.list o (a.map eOn), .list o' (b.map eOn)] h = some (.bool (decide (a = b)), h) := by
  refine callL_wp rfl rfl ?_
  by_cases hl : a.length = b.length
  · simp [f_ref07_Clocks, hl]
    refine loop_all b.length (fun i => decide (a[i]? = b[i]?)) (fun i (_ : Unit) => ⟨[.list false (a.map eOn), .list false (b.map eOn), .bool false, .int .i64 i], [], 0, h⟩) ?_ ?_ ?_ ()
    · intro i hi hok x ih
      have hw := wrap_succ i (by unfold Len at hb; omega)
      have hia : i < a.length := by omega
      simp [hia, hi] at hok

      simp [hia, hi, hok, hw, hl]
      exact ih ()
    · intro i hi hok _ x
      have hia : i < a.length := by omega
      have hne := list_ne (of_decide_eq_false hok)
      simp [hia, hi] at hok

      simp [hia, hi, hok, hl, hne]
    · intro hok x
      have e := list_eq hl (fun k hk => of_decide_eq_true (hok k (by omega)))
      simp [e]
  · have : ¬ (a.length : Int) = b.length := by omega
    have hne : ¬ a = b := by rintro rfl; exact hl rfl
    simp [f_ref07_Clocks, this, hne]

theorem cells (a b : List Cell) (o o' : Bool) (ha : Len a.length) (hb : Len b.length) (h : List PObj) : callL L 33 [.list o (a.map eCell), .list o' (b.map eCell)] h = some (.bool (decide (a = b)), h) := by
  refine callL_wp rfl rfl ?_
  by_cases hl : a.length = b.length
  · simp [f_ref17_Cells, hl]
    refine loop_all b.length (fun i => decide (a[i]? = b[i]?)) (fun i (_ : Unit) => ⟨[.list false (a.map eCell), .list false (b.map eCell), .bool false, .int .i64 i], [], 0, h⟩) ?_ ?_ ?_ ()
    · intro i hi hok x ih
      have hw := wrap_succ i (by unfold Len at hb; omega)
      have hia : i < a.length := by omega
      simp [hia, hi] at hok

      simp [hia, hi, hok, hw, hl]
      exact ih ()
    · intro i hi hok _ x
      have hia : i < a.length := by omega
      have hne := list_ne (of_decide_eq_false hok)
      simp [hia, hi] at hok

      simp [hia, hi, hok, hl, hne]
    · intro hok x
      have e := list_eq hl (fun k hk => of_decide_eq_true (hok k (by omega)))
      simp [e]
  · have : ¬ (a.length : Int) = b.length := by omega
    have hne : ¬ a = b := by rintro rfl; exact hl rfl
    simp [f_ref17_Cells, this, hne]

theorem sameNames (a b : List (List UInt8)) (o o' : Bool) (ha : Len a.length) (hb : Len b.length) (h : List PObj) : callL L 8 [.list o (a.map PV.str), .list o' (b.map PV.str)] h = some (.bool (decide (a = b)), h) := by
  refine callL_wp rfl rfl ?_
  by_cases hl : a.length = b.length
  · simp [f_ref06_SameNames, hl]
    refine loop_all b.length (fun i => decide (a[i]? = b[i]?)) (fun i (_ : Unit) => ⟨[.list false (a.map PV.str), .list false (b.map PV.str), .bool false, .int .i64 i], [], 0, h⟩) ?_ ?_ ?_ ()
    · intro i hi hok x ih
      have hw := wrap_succ i (by unfold Len at hb; omega)
      have hia : i < a.length := by omega
      simp [hia, hi] at hok

      simp [hia, hi, hok, hw, hl]
      exact ih ()
    · intro i hi hok _ x
      have hia : i < a.length := by omega
      have hne := list_ne (of_decide_eq_false hok)
      simp [hia, hi] at hok

      simp [hia, hi, hok, hl, hne]
    · intro hok x
      have e := list_eq hl (fun k hk => of_decide_eq_true (hok k (by omega)))
      simp [e]
  · have : ¬ (a.length : Int) = b.length := by omega
    have hne : ¬ a = b := by rintro rfl; exact hl rfl
    simp [f_ref06_SameNames, this, hne]

theorem tables (a b : List Row) (o o' : Bool) (ha : Len a.length) (hb : Len b.length) (ra : ∀ r ∈ a, Len r.length) (rb : ∀ r ∈ b, Len r.length) (h : List PObj) : callL L 19 [.list o (a.map eRow), .list o' (b.map eRow)] h = some (.bool (decide (a = b)), h) := by
  refine callL_wp rfl rfl ?_
  by_cases hl : a.length = b.length
  · simp [f_ref17_Tables, hl]
    refine loop_all b.length (fun i => decide (a[i]? = b[i]?)) (fun i (_ : Unit) => ⟨[.list false (a.map eRow), .list false (b.map eRow), .bool false, .int .i64 i], [], 0, h⟩) ?_ ?_ ?_ ()
    · intro i hi hok x ih
      have hw := wrap_succ i (by unfold Len at hb; omega)
      have hia : i < a.length := by omega
      simp [hia, hi] at hok
      have q1 := rb b[i] (List.getElem_mem hi)
      have q2 := rb b[i] (List.getElem_mem hi)
      have q3 := cells b[i] b[i] false false q1 q2 []
      simp [hia, hi, hok, hw, hl, eRow, q3]
      exact ih ()
    · intro i hi hok _ x
      have hia : i < a.length := by omega
      have hne := list_ne (of_decide_eq_false hok)
      simp [hia, hi] at hok
      have q1 := ra a[i] (List.getElem_mem hia)
      have q2 := rb b[i] (List.getElem_mem hi)
      have q3 := cells a[i] b[i] false false q1 q2 []
      simp [hia, hi, hok, hl, hne, eRow, q3]
    · intro hok x
      have e := list_eq hl (fun k hk => of_decide_eq_true (hok k (by omega)))
      simp [e]
  · have : ¬ (a.length : Int) = b.length := by omega
    have hne : ¬ a = b := by rintro rfl; exact hl rfl
    simp [f_ref17_Tables, this, hne]


theorem equal1 (a b : Row) (o o' : Bool) (ha : Len a.length) (hb : Len b.length) (h : List PObj) : callL L 42 [.list o (a.map eCell), .list o' (b.map eCell)] h = some (.bool (decide (a = b)), h) := by
  refine callL_wp rfl rfl ?_
  simp [f_compare_equal_1, eqCell a b _ _ ha hb]

theorem same1 (x y : Decl) (hx : Len x.clock.length) (hy : Len y.clock.length) (h : List PObj) : callL L 39 [eDecl x, eDecl y] h = some (.bool (decide (x = y)), h) := by
  refine callL_wp rfl rfl ?_
  by_cases h1 : x.name = y.name
  · by_cases h2 : x.type = y.type
    · simp [f_compare_same_1, eqOn x.clock y.clock _ _ hx hy, h1, h2, Decl.ext_iff']
    · simp [f_compare_same_1, h1, h2, Decl.ext_iff']
  · simp [f_compare_same_1, h1, Decl.ext_iff']

theorem equalRows (a b : List Row) (o o' : Bool) (ha : Len a.length) (hb : Len b.length) (ra : ∀ r ∈ a, Len r.length) (rb : ∀ r ∈ b, Len r.length) (h : List PObj) : callL L 41 [.list o (a.map eRow), .list o' (b.map eRow), .func 42 [] []] h = some (.bool (decide (a = b)), h) := by
  refine callL_wp rfl rfl ?_
  by_cases hl : a.length = b.length
  · simp [f_slices_EqualFunc_api_Cell, hl]
    refine loop_all b.length (fun i => decide (a[i]? = b[i]?)) (fun i (x : PV × PV × PV) => ⟨[.list false (a.map eRow), .list false (b.map eRow), .func 42 [] [], .bool false, x.1, x.2.1, x.2.2, .list false (a.map eRow), .int .i64 b.length, .int .i64 i], [], 0, h⟩) ?_ ?_ ?_ (.dead, .dead, .dead)
    · intro i hi hok x ih
      have hw := wrap_succ i (by unfold Len at hb; omega)
      have hia : i < a.length := by omega
      simp [hia, hi] at hok
      have q1 := rb b[i] (List.getElem_mem hi)
      have q2 := rb b[i] (List.getElem_mem hi)
      have q3 := equal1 b[i] b[i] false false q1 q2 h
      simp [hia, hi, hok, hw, hl, eRow, q3]
      exact ih (_, _, _)
    · intro i hi hok _ x
      have hia : i < a.length := by omega
      have hne := list_ne (of_decide_eq_false hok)
      simp [hia, hi] at hok
      have q1 := ra a[i] (List.getElem_mem hia)
      have q2 := rb b[i] (List.getElem_mem hi)
      have q3 := equal1 a[i] b[i] false false q1 q2 h
      simp [hia, hi, hok, hl, hne, eRow, q3]
    · intro hok x
      have e := list_eq hl (fun k hk => of_decide_eq_true (hok k (by omega)))
      simp [e]
  · have : ¬ (a.length : Int) = b.length := by omega
    have hne : ¬ a = b := by rintro rfl; exact hl rfl
    simp [f_slices_EqualFunc_api_Cell, this, hne]

theorem equalDecls (a b : List Decl) (o o' : Bool) (ha : Len a.length) (hb : Len b.length) (ra : ∀ r ∈ a, Len r.clock.length) (rb : ∀ r ∈ b, Len r.clock.length) (h : List PObj) : callL L 38 [.list o (a.map eDecl), .list o' (b.map eDecl), .func 39 [] []] h = some (.bool (decide (a = b)), h) := by
  refine callL_wp rfl rfl ?_
  by_cases hl : a.length = b.length
  · simp [f_slices_EqualFunc_api_Decl, hl]
    refine loop_all b.length (fun i => decide (a[i]? = b[i]?)) (fun i (x : PV × PV × PV × Nat) => ⟨[.list false (a.map eDecl), .list false (b.map eDecl), .func 39 [] [], .bool false, x.1, x.2.1, x.2.2.1, .list false (a.map eDecl), .int .i64 b.length, .int .i64 i], [], x.2.2.2, h⟩) ?_ ?_ ?_ (.dead, .dead, .dead, 0)
    · intro i hi hok x ih
      have hw := wrap_succ i (by unfold Len at hb; omega)
      have hia : i < a.length := by omega
      simp [hia, hi] at hok
      have q1 := rb b[i] (List.getElem_mem hi)
      have q2 := rb b[i] (List.getElem_mem hi)
      have q3 := same1 b[i] b[i] q1 q2 h
      simp [hia, hi, hok, hw, hl, q3]
      exact ih (_, _, _, _)
    · intro i hi hok _ x
      have hia : i < a.length := by omega
      have hne := list_ne (of_decide_eq_false hok)
      simp [hia, hi] at hok
      have q1 := ra a[i] (List.getElem_mem hia)
      have q2 := rb b[i] (List.getElem_mem hi)
      have q3 := same1 a[i] b[i] q1 q2 h
      simp [hia, hi, hok, hl, hne, q3]
    · intro hok x
      have e := list_eq hl (fun k hk => of_decide_eq_true (hok k (by omega)))
      simp [e]
  · have : ¬ (a.length : Int) = b.length := by omega
    have hne : ¬ a = b := by rintro rfl; exact hl rfl
    simp [f_slices_EqualFunc_api_Decl, this, hne]

theorem decls (a b : List Decl) (o o' : Bool) (ha : Len a.length) (hb : Len b.length) (ra : ∀ r ∈ a, Len r.clock.length) (rb : ∀ r ∈ b, Len r.clock.length) (h : List PObj) : callL L 24 [.list o (a.map eDecl), .list o' (b.map eDecl)] h = some (.bool (decide (a = b)), h) := by
  refine callL_wp rfl rfl ?_
  by_cases hl : a.length = b.length
  · simp [f_ref07_Decls, hl]
    refine loop_all b.length (fun i => decide (a[i]? = b[i]?)) (fun i (_ : Unit) => ⟨[.list false (a.map eDecl), .list false (b.map eDecl), .bool false, .int .i64 i], [], 0, h⟩) ?_ ?_ ?_ ()
    · intro i hi hok x ih
      have hw := wrap_succ i (by unfold Len at hb; omega)
      have hia : i < a.length := by omega
      simp [hia, hi] at hok
      have q2 := rb b[i] (List.getElem_mem hi)
      have q3 := clocks b[i].clock b[i].clock false false q2 q2 []
      simp [hia, hi, hok, hw, hl, q3]
      exact ih ()
    · intro i hi hok _ x
      have hia : i < a.length := by omega
      have hne := list_ne (of_decide_eq_false hok)
      simp [hia, hi] at hok
      rw [Decl.ext_iff'] at hok
      have q1 := ra a[i] (List.getElem_mem hia)
      have q2 := rb b[i] (List.getElem_mem hi)
      have q3 := clocks a[i].clock b[i].clock false false q1 q2 []
      by_cases h1 : a[i].name = b[i].name
      · by_cases h2 : a[i].type = b[i].type
        · have h3 : ¬ a[i].clock = b[i].clock := fun h3 => hok ⟨h1, h2, h3⟩
          simp [hia, hi, h1, h2, h3, hl, hne, q3]
        · simp [hia, hi, h1, h2, hl, hne]
      · simp [hia, hi, h1, hl, hne]
    · intro hok x
      have e := list_eq hl (fun k hk => of_decide_eq_true (hok k (by omega)))
      simp [e]
  · have : ¬ (a.length : Int) = b.length := by omega
    have hne : ¬ a = b := by rintro rfl; exact hl rfl
    simp [f_ref07_Decls, this, hne]

end PI.Cmp
