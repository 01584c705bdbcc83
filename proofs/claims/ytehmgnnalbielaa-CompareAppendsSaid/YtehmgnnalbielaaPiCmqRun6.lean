/-
  What the functions of compare come to: projecting.
-/
import Derived.Test.YtehmgnnalbielaaPiCmqRun5
set_option maxRecDepth 100000
set_option linter.unusedSimpArgs false
set_option linter.unusedVariables false
namespace PI.Cmp
open Go (IntKind BinOp UnOp)

def colAt (t : Trace) (s : List UInt8) : Decl := (t.cols[(idx t.cols s).getD 0]?).getD default
def projRow (t : Trace) (names : List (List UInt8)) (r : Row) : Row := names.map fun s => (r[(idx t.cols s).getD 0]?).getD zeroCell
def proj (t : Trace) (names : List (List UInt8)) : Trace := ⟨names.map (colAt t), t.rows.map (projRow t names)⟩
def known (t : Trace) (s : List UInt8) : Bool := (idx t.cols s).isSome
def project (t : Trace) (names : List (List UInt8)) : Trace × Nat := if names.all (known t) = true then (proj t names, 0) else (noTrace, 6)

@[simp] theorem head_cells {α : Type} (f : α → Cell) (l : List α) : headOk 2 (l.map fun x => eCell (f x)) = true := by cases l <;> simp
@[simp] theorem head_decls {α : Type} (f : α → Decl) (l : List α) : headOk 3 (l.map fun x => eDecl (f x)) = true := by cases l <;> simp

theorem rProjRow (t : Trace) (names : List (List UInt8)) (r : Nat) (hr : r < t.rows.length) (hk : ∀ s ∈ names, known t s = true) (hl : names.length ≤ 2147483647) (hc : Len t.cols.length) (V3 V4 V5 V6 V7 : PV) (g : Nat) (h : List PObj) (Q : PExit → St → Prop)
    (hq : ∀ x, Q .normal ⟨[eTrace t, eNames names, .loc 0 [.list false (t.cols.map eDecl), .list false (t.rows.map eRow)], V3, V4, V5, V6, V7, .int .i64 r, .list true ((projRow t names t.rows[r]).map eCell), x], [], g, h⟩) :
    wpL L f_ref44_Project_l1 ⟨[eTrace t, eNames names, .loc 0 [.list false (t.cols.map eDecl), .list false (t.rows.map eRow)], V3, V4, V5, V6, V7, .int .i64 r, .list true [], .int .i64 0], [], g, h⟩ (blockK 4 Q) := by
  rw [f_ref44_Project_l1]
  refine loop_fold names.length (fun i (x : Unit) => ⟨[eTrace t, eNames names, .loc 0 [.list false (t.cols.map eDecl), .list false (t.rows.map eRow)], V3, V4, V5, V6, V7, .int .i64 r, .list true ((names.map fun s => eCell ((t.rows[r][(idx t.cols s).getD 0]?).getD zeroCell)).take i), .int .i64 i], [], g, h⟩) ?_ ?_ ()
  · intro i hi x ih
    have hw := wrap_succ i (by omega)
    have hm : min i names.length = i := by omega
    have hi2 : i + 1 ≤ 2147483648 := by omega
    obtain ⟨k, ek⟩ := Option.isSome_iff_exists.1 (hk names[i] (List.getElem_mem hi))
    have cr := refCell t r names[i] k hr ek hc []
    rw [map_snoc _ _ _ hi] at ih
    simp [hi, hw, hm, hi2, cr]
    simp [ek, hr] at ih
    exact ih
  · intro x
    have ht : (names.map fun s => eCell ((t.rows[r][(idx t.cols s).getD 0]?).getD zeroCell)).take names.length = names.map fun s => eCell ((t.rows[r][(idx t.cols s).getD 0]?).getD zeroCell) := List.take_of_length_le (by simp)
    simp [ht]
    simpa [projRow, Function.comp_def] using hq (.int .i64 names.length)

theorem rProject (t : Trace) (names : List (List UInt8)) (o : Bool) (hl : names.length ≤ 2147483647) (hc : Len t.cols.length) (hrw : t.rows.length ≤ 2147483647) (h : List PObj) :
    callL L 14 [eTrace t, .list o (names.map .str)] h = some (eErr (project t names), h) := by
  refine callL_wp rfl rfl ?_
  simp [f_ref44_Project, setParts]
  refine loop_all names.length (fun i => match names[i]? with | some s => known t s | none => true) (fun i (x : PV) => ⟨[eTrace t, eNames names, .loc 0 [.list false (t.cols.map eDecl), .list false (t.rows.map eRow)], .loc 1 [.list true [], .list true []], .int .i64 0, .loc 2 [.list true ((names.map fun s => eDecl (colAt t s)).take i), .list true []], .int .i64 i, x, .dead, .dead, .dead], [], 3, h⟩) ?_ ?_ ?_ .dead
  · intro i hi hok x ih
    have hw := wrap_succ i (by omega)
    have hm : min i names.length = i := by omega
    have hi2 : i + 1 ≤ 2147483648 := by omega
    simp only [List.getElem?_eq_getElem hi] at hok
    obtain ⟨k, ek⟩ := Option.isSome_iff_exists.1 hok
    have hcol := column t names[i] hc []
    rw [ek] at hcol
    obtain ⟨hk, _⟩ := idx_lt ek
    have hk0 : ¬ (k : Int) < 0 := by omega
    rw [map_snoc _ _ _ hi] at ih
    simp [hi, hcol, idxI, hw, hm, hi2, hk, hk0]
    simp [colAt, ek, hk] at ih
    exact ih _
  · intro i hi hok hk x
    simp only [List.getElem?_eq_getElem hi] at hok
    have ek : idx t.cols names[i] = none := by simpa [known] using hok
    have hcol := column t names[i] hc []
    rw [ek] at hcol
    have hnot : ¬ names.all (known t) = true := by
      rw [List.all_eq_true]
      intro hall
      rw [hall _ (List.getElem_mem hi)] at hok
      cases hok
    rw [project, if_neg hnot]
    simp [hi, hcol, idxI, setParts, eErr, no_trace]
  · intro hok x
    have hkn : ∀ s ∈ names, known t s = true := by
      intro s hs
      obtain ⟨i, hi, rfl⟩ := List.mem_iff_getElem.1 hs
      have := hok i hi
      simpa [hi] using this
    have ht : (names.map fun s => eDecl (colAt t s)).take names.length = names.map fun s => eDecl (colAt t s) := List.take_of_length_le (by simp)
    have hall : names.all (known t) = true := List.all_eq_true.2 hkn
    rw [project, if_pos hall]
    simp [ht]
    refine loop_fold t.rows.length (fun i (y : PV × PV) => ⟨[eTrace t, eNames names, .loc 0 [.list false (t.cols.map eDecl), .list false (t.rows.map eRow)], .loc 1 [.list true [], .list true []], .int .i64 0, .loc 2 [.list true (names.map fun s => eDecl (colAt t s)), .list true ((t.rows.map fun r => eRow (projRow t names r)).take i)], .int .i64 names.length, x, .int .i64 i, y.1, y.2], [], 3, h⟩) ?_ ?_ (.dead, .dead)
    · intro i hi x ih
      have hw := wrap_succ i (by omega)
      have hm : min i t.rows.length = i := by omega
      have hi2 : i + 1 ≤ 2147483648 := by omega
      rw [map_snoc _ _ _ hi] at ih
      have hr : PV.list false ((projRow t names t.rows[i]).map eCell) = eRow (projRow t names t.rows[i]) := rfl
      simp [hi]
      refine rProjRow t names i hi hkn hl hc _ _ _ _ _ _ h _ ?_
      intro y
      simp [hm, hi2, hw, hr]
      simp at ih
      exact ih _ _
    · intro y
      have hrt : (t.rows.map fun r => eRow (projRow t names r)).take t.rows.length = t.rows.map fun r => eRow (projRow t names r) := List.take_of_length_le (by simp)
      simp [hrt, eErr]
      simp [eTrace, proj]

end PI.Cmp
