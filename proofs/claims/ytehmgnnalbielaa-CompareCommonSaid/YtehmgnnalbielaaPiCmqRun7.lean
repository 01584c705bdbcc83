/-
  What the functions of compare come to: projecting, in the program.
-/
import Derived.Test.YtehmgnnalbielaaPiCmqRun6
set_option maxRecDepth 100000
set_option linter.unusedSimpArgs false
set_option linter.unusedVariables false
namespace PI.Cmp
open Go (IntKind BinOp UnOp)

theorem pProjRow (t : Trace) (names : List (List UInt8)) (r : Row) (hrl : Len r.length) (hk : ∀ s ∈ names, known t s = true) (hl : names.length ≤ 2147483647) (V0 V1 V2 V3 V4 V6 V7 V8 V9 V12 V13 V14 V15 V16 V17 V18 : PV) (g : Nat) (h : List PObj) (Q : PExit → St → Prop)
    (hq : ∀ x y, Q .normal ⟨[V0, V1, V2, V3, V4, .map (some h.length), V6, V7, V8, V9, eRow r, .list true ((projRow t names r).map eCell), x, V13, V14, V15, V16, V17, V18, eNames names, .int .i64 names.length, y], [], g, h ++ [.map (cmap t.cols)]⟩) :
    wpL L f_compare_Project_l1 ⟨[V0, V1, V2, V3, V4, .map (some h.length), V6, V7, V8, V9, eRow r, .list true [], V12, V13, V14, V15, V16, V17, V18, eNames names, .int .i64 names.length, .int .i64 0], [], g, h ++ [.map (cmap t.cols)]⟩ (blockK 4 Q) := by
  rw [f_compare_Project_l1]
  refine loop_fold names.length (fun i (x : PV) => ⟨[V0, V1, V2, V3, V4, .map (some h.length), V6, V7, V8, V9, eRow r, .list true ((names.map fun s => eCell ((r[(idx t.cols s).getD 0]?).getD zeroCell)).take i), x, V13, V14, V15, V16, V17, V18, eNames names, .int .i64 names.length, .int .i64 i], [], g, h ++ [.map (cmap t.cols)]⟩) ?_ ?_ V12
  · intro i hi x ih
    have hw := wrap_succ i (by omega)
    have hm : min i names.length = i := by omega
    have hi2 : i + 1 ≤ 2147483648 := by omega
    obtain ⟨k, ek⟩ := Option.isSome_iff_exists.1 (hk names[i] (List.getElem_mem hi))
    obtain ⟨p, h1⟩ := cmap_some ek
    have cr := cell r k false hrl []
    rw [map_snoc _ _ _ hi] at ih
    simp [hi, hw, hm, hi2, h1, eRow, cr]
    simp [ek, List.getD_eq_getElem?_getD, eRow] at ih ⊢
    exact ih _
  · intro x
    have ht : (names.map fun s => eCell ((r[(idx t.cols s).getD 0]?).getD zeroCell)).take names.length = names.map fun s => eCell ((r[(idx t.cols s).getD 0]?).getD zeroCell) := List.take_of_length_le (by simp)
    simp [ht]
    simpa [projRow, Function.comp_def] using hq x (.int .i64 names.length)

theorem pProject (t : Trace) (names : List (List UInt8)) (o : Bool) (hl : names.length ≤ 2147483647) (hc : Len t.cols.length) (hcl : ∀ d ∈ t.cols, d.clock.length * 32 ≤ 140737488351232) (hrw : t.rows.length ≤ 2147483647) (hrl : ∀ r ∈ t.rows, Len r.length) (h : List PObj) :
    callL L 13 [eTrace t, .list o (names.map .str)] h = some (eErr (project t names), h ++ [.map (cmap t.cols)]) := by
  have hcm := columns t hc h
  refine callL_wp rfl rfl ?_
  simp [f_compare_Project, setParts, hcm]
  refine loop_all names.length (fun i => match names[i]? with | some s => known t s | none => true) (fun i (x : PV × PV × PV) => ⟨[eTrace t, eNames names, .loc 0 [.list false (t.cols.map eDecl), .list false (t.rows.map eRow)], .loc 1 [.list true [], .list true []], .int .i64 0, .map (some h.length), .loc 2 [.list true ((names.map fun s => eDecl (colAt t s)).take i), .list true []], x.1, x.2.1, x.2.2, .dead, .dead, .dead, eNames names, .int .i64 names.length, .int .i64 i, .dead, .dead, .dead, .dead, .dead, .dead], [], 3, h ++ [.map (cmap t.cols)]⟩) ?_ ?_ ?_ (.dead, .dead, .dead)
  · intro i hi hok x ih
    have hw := wrap_succ i (by omega)
    have hm : min i names.length = i := by omega
    have hi2 : i + 1 ≤ 2147483648 := by omega
    simp only [List.getElem?_eq_getElem hi] at hok
    obtain ⟨k, ek⟩ := Option.isSome_iff_exists.1 hok
    obtain ⟨hk, _⟩ := idx_lt ek
    obtain ⟨p, h1⟩ := cmap_some ek
    have cc := copied t.cols[k] (hcl _ (List.getElem_mem hk)) []
    rw [map_snoc _ _ _ hi] at ih
    simp [hi, h1, hw, hm, hi2, hk, cc]
    simp [colAt, ek, hk] at ih
    exact ih _ _ _
  · intro i hi hok hk x
    simp only [List.getElem?_eq_getElem hi] at hok
    have ek : idx t.cols names[i] = none := by simpa [known] using hok
    have h1 := cmap_none ek
    have hnot : ¬ names.all (known t) = true := by
      rw [List.all_eq_true]
      intro hall
      rw [hall _ (List.getElem_mem hi)] at hok
      cases hok
    rw [project, if_neg hnot]
    simp [hi, h1, setParts, eErr, no_trace]
  · intro hok x
    have hkn : ∀ s ∈ names, known t s = true := by
      intro s hs
      obtain ⟨i, hi, rfl⟩ := List.mem_iff_getElem.1 hs
      have := hok i hi
      simpa [hi] using this
    have ht : (names.map fun s => eDecl (colAt t s)).take names.length = names.map fun s => eDecl (colAt t s) := List.take_of_length_le (by simp)
    have hall : names.all (known t) = true := List.all_eq_true.2 hkn
    rw [project, if_pos hall]
    simp [ht]
    refine loop_fold t.rows.length (fun i (y : PV × PV × PV × PV × PV × PV) => ⟨[eTrace t, eNames names, .loc 0 [.list false (t.cols.map eDecl), .list false (t.rows.map eRow)], .loc 1 [.list true [], .list true []], .int .i64 0, .map (some h.length), .loc 2 [.list true (names.map fun s => eDecl (colAt t s)), .list true ((t.rows.map fun r => eRow (projRow t names r)).take i)], x.1, x.2.1, x.2.2, y.1, y.2.1, y.2.2.1, eNames names, .int .i64 names.length, .int .i64 names.length, .list false (t.rows.map eRow), .int .i64 t.rows.length, .int .i64 i, y.2.2.2.1, y.2.2.2.2.1, y.2.2.2.2.2], [], 3, h ++ [.map (cmap t.cols)]⟩) ?_ ?_ (.dead, .dead, .dead, .dead, .dead, .dead)
    · intro i hi x ih
      have hw := wrap_succ i (by omega)
      have hm : min i t.rows.length = i := by omega
      have hi2 : i + 1 ≤ 2147483648 := by omega
      rw [map_snoc _ _ _ hi] at ih
      have hr : PV.list false ((projRow t names t.rows[i]).map eCell) = eRow (projRow t names t.rows[i]) := rfl
      simp [hi]
      refine pProjRow t names t.rows[i] (hrl _ (List.getElem_mem hi)) hkn hl _ _ _ _ _ _ _ _ _ _ _ _ _ _ _ _ _ h _ ?_
      intro y z
      simp [hm, hi2, hw, hr]
      simp at ih
      exact ih _ _ _ _ _ _
    · intro y
      have hrt : (t.rows.map fun r => eRow (projRow t names r)).take t.rows.length = t.rows.map fun r => eRow (projRow t names r) := List.take_of_length_le (by simp)
      simp [hrt, eErr]
      simp [eTrace, proj]

end PI.Cmp
