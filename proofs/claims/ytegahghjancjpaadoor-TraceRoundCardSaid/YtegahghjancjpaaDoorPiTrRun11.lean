/-
  What the functions of traces come to: Col, Rows.
-/
import Derived.Test.YtegahghjancjpaaDoorPiTrRun10
set_option maxRecDepth 100000
set_option linter.unusedSimpArgs false
set_option linter.unusedVariables false
namespace PI.Tr
open Go (IntKind BinOp UnOp)

def colPos (t : Trace) (name : Str) : Option Nat := t.cols.findIdx? fun d => decide (d.name = name)
def colCells (t : Trace) (i : Nat) : List Cell := t.rows.map fun r => r.getD i zeroCell
/-- The cells of a column. -/
def colOf (t : Trace) (name : Str) : Option (List Cell) := (colPos t name).map (colCells t)

section
variable {L : Nat → Option PFunc} (hL : ∀ k f, Lc k = some f → L k = some f)
include hL

theorem trace_col (t : Trace) (hok : TrOK t) (hr : t.rows.length ≤ 2147483647) (name : Str) (h : List PObj) : ∃ h', callL L 11 [eTrace t, .str name] h = some (.tuple [.list false (((colOf t name).getD []).map eCell), .bool (colOf t name).isSome], h') := by
  suffices H : ∃ r, callL L 11 [eTrace t, .str name] h = some r ∧ r.1 = .tuple [.list false (((colOf t name).getD []).map eCell), .bool (colOf t name).isSome] by
    obtain ⟨⟨v, h'⟩, h1, h2⟩ := H
    exact ⟨h', by rw [h1]; simp at h2; rw [h2]⟩
  refine callL_wpP (hL 11 _ rfl) rfl ?_
  have hcn := hok.cols.1
  generalize hco : colOf t name = co
  unfold colOf at hco
  simp [f_trace_Col]
  refine loop_updG t.cols.length (fun i => decide (¬ (t.cols.getD i default).name = name)) (fun i (x : (PV × PV) × Nat) => [(5, x.1.1), (6, x.1.2), (12, .int .i64 i)]) (fun _ x => x.2) (fun _ _ => h) ((.dead, .dead), 1) ?_ ?_ ?_ rfl rfl rfl
  · intro i hi hz x ih
    have hw := wrap_succ i (by unfold Len at hcn; omega)
    simp [List.getD, hi] at hz
    simp [hi, hz, hw]
    simpa using ih ((_, _), _)
  · intro i hi hz hk x
    simp [List.getD, hi] at hz
    have hf : colPos t name = some i := findIdx_at hi (by simpa using hz) (fun k hk' => by have := hk k hk'; have hk2 : k < t.cols.length := (by omega); simpa [List.getD, hk2] using this)
    rw [hf] at hco
    simp at hco
    subst hco
    simp [hi, hz]
    have hcl : (colCells t i).length = t.rows.length := by simp [colCells]
    obtain ⟨acc, hacc⟩ : ∃ acc : Nat → List Cell, ∀ r, acc r = (colCells t i).take r := ⟨_, fun _ => rfl⟩
    have ha0 : acc 0 = [] := by rw [hacc]; rfl
    have han : acc t.rows.length = colCells t i := by rw [hacc, ← hcl]; simp
    refine loop_updG t.rows.length (fun _ => true) (fun r (x : (PV × PV) × Nat) => [(7, .list true ((acc r).map eCell)), (8, x.1.1), (9, x.1.2), (15, .int .i64 r)]) (fun _ x => x.2) (fun _ _ => h) ((.dead, .dead), x.2 + 1) ?_ ?_ ?_ (by rw [ha0]; rfl) rfl rfl
    · intro r hr' _ x ih
      have hw := wrap_succ r (by omega)
      have hb : (acc r).length ≤ 2147483647 := by rw [hacc]; simp; omega
      have hts : acc (r + 1) = acc r ++ [t.rows[r].getD i zeroCell] := by
        rw [hacc, hacc, take_succ' (by omega)]; simp [colCells]
      have z0 : PV.agg [.int .i64 0, .int .i64 0] = eCell ⟨0, 0⟩ := rfl
      by_cases hir : i < t.rows[r].length
      · simp [hr', eRow, hir, hw, hb]
        have := ih ((.list false (t.rows[r].map eCell), .loc x.2 (eCell t.rows[r][i]).cells), x.2 + 1)
        rw [hts] at this
        simpa [List.getD, hir] using this
      · simp [hr', eRow, hir, hw, hb]
        have := ih ((.list false (t.rows[r].map eCell), .loc x.2 (eCell zeroCell).cells), x.2 + 1)
        rw [hts] at this
        simpa [List.getD, hir, zeroCell, z0] using this
    · intro r _ hz; simp at hz
    · intro _ x
      simp [endP, han]
  · intro hz x
    have hf : colPos t name = none := findIdx_no (fun k hk => by have := hz k hk; simpa [List.getD, hk] using this)
    rw [hf] at hco
    simp at hco
    subst hco
    simp [endP]
end

/-! ### Rows -/

def colsOf (t : Trace) (names : List Str) : List (List Cell) := names.map fun s => (colOf t s).getD []
/-- The values of some columns in a row. -/
def pre (cs : List (List Cell)) (k c : Nat) : List Int := (cs.take c).map fun col => (col.getD k default).v
def present (col : List Cell) : Bool := col.all fun x => decide (x.kind = 1)
/-- The values of columns, or the error. -/
def rowsOf (t : Trace) (names : List Str) : List (List Int) × Int :=
  if (names.all fun s => (colOf t s).isSome) = false then ([], 6)
  else if ((colsOf t names).all present) = false then ([], 8)
  else ((List.range t.rows.length).map fun r => pre (colsOf t names) r names.length, 0)

def eInts (l : List Int) : PV := .list false (l.map (.int .i64))
/-- The rows in the heap, when c columns are in, and one more in the first r rows. -/
def rowPV (cs : List (List Cell)) (n c r : Nat) : List PV := (List.range n).map fun k => .list true ((pre cs k (if k < r then c + 1 else c)).map (.int .i64))
theorem rowPV_next (cs : List (List Cell)) (n c : Nat) : rowPV cs n c n = rowPV cs n (c + 1) 0 := by
  unfold rowPV
  refine List.map_congr_left ?_
  intro k hk
  have : k < n := by simpa using hk
  rw [if_pos this, if_neg (by omega)]
theorem rowPV_len (cs : List (List Cell)) (n c r : Nat) : (rowPV cs n c r).length = n := by simp [rowPV]
theorem rowPV_at (cs : List (List Cell)) (n c r : Nat) (h : r < n) : (rowPV cs n c r)[r]? = some (.list true ((pre cs r c).map (.int .i64))) := by simp [rowPV, h]
theorem pre_succ (cs : List (List Cell)) (k c : Nat) (h : c < cs.length) : pre cs k (c + 1) = pre cs k c ++ [(cs[c].getD k default).v] := by unfold pre; rw [take_succ' h]; simp only [List.map_append, List.map_cons, List.map_nil]
theorem pre_len (cs : List (List Cell)) (k c : Nat) : (pre cs k c).length ≤ c := by simp [pre]; omega
theorem rowPV_set (cs : List (List Cell)) (n c r : Nat) (h : r < n) : (rowPV cs n c r).set r (.list true ((pre cs r (c + 1)).map (.int .i64))) = rowPV cs n c (r + 1) := by
  apply List.ext_getElem?
  intro k
  rw [List.getElem?_set]
  by_cases hk : r = k
  · subst hk; simp [rowPV, h]
  · rw [if_neg hk]
    simp only [rowPV, List.getElem?_map]
    by_cases hkn : k < n
    · simp only [List.getElem?_range hkn, Option.map_some]
      by_cases h2 : k < r
      · rw [if_pos h2, if_pos (by omega)]
      · rw [if_neg h2, if_neg (by omega)]
    · simp [hkn]
theorem rowPV_zero (cs : List (List Cell)) (n : Nat) : rowPV cs n 0 0 = (List.replicate n [PV.list true []]).flatten := by
  unfold rowPV pre
  induction n with
  | zero => rfl
  | succ n ih => rw [List.range_succ, List.map_append, ih, List.replicate_succ']; simp
theorem rowPV_els (cs : List (List Cell)) (c : Nat) : ∀ (n : Nat), rowEls 1 false (rowPV cs n c 0) n 0 = some ((List.range n).map fun k => eInts (pre cs k c)) := by
  intro n
  have key : ∀ (d off : Nat), off + d = n → rowEls 1 false (rowPV cs n c 0) d off = some (((List.range n).drop off).map fun k => eInts (pre cs k c)) := by
    intro d
    induction d with
    | zero =>
      intro off h
      have : ((List.range n).drop off) = [] := by simp; omega
      rw [this]; rfl
    | succ d ih =>
      intro off h
      have hlt : off < n := by omega
      have h1 := ih (off + 1) (by omega)
      have h2 : (List.range n).drop off = off :: (List.range n).drop (off + 1) := by
        rw [List.drop_eq_getElem_cons (by simpa using hlt)]; simp
      have h3 : loadFrom 1 false (rowPV cs n c 0) off = some (eInts (pre cs off c)) := by
        have : (rowPV cs n c 0)[off]? = some (.list true ((pre cs off c).map (.int .i64))) := by simp [rowPV, hlt]
        simp only [loadFrom, this]; rfl
      simp only [rowEls, h3, h1, h2, Option.bind_some, Option.map_some, List.map_cons]
  simpa using key n 0 (by omega)

section
variable {L : Nat → Option PFunc} (hL : ∀ k f, Lc k = some f → L k = some f)
include hL

theorem rows_col (cs : List (List Cell)) (c n : Nat) (hc : c < cs.length) (hn : cs[c].length = n) (hn2 : n ≤ 1000000) (hcb : c ≤ 1000000) (m : Nat) (H : List PObj → List PObj) (hH : ∀ X, (H [X])[m]? = some X) (hH2 : ∀ X Y, (H [X]).set m Y = H [Y])
    (p0 p1 p2 x5 x6 x7 x8 x11 x12 x13 x14 x15 x16 x17 x18 : PV) (g : Nat) {Q : PExit → St → Prop}
    (h0 : present cs[c] = true → ∀ y11 y12 y21 g', Q (.exit 4) ⟨[p0, p1, p2, .list true [], .int .i64 0, x5, x6, x7, x8, .rowp m 1 false n, .list false (cs[c].map eCell), y11, y12, x13, x14, x15, x16, x17, x18, .list false (cs[c].map eCell), .int .i64 n, y21], [], g', H [.cells (rowPV cs n (c + 1) 0)]⟩)
    (h1 : present cs[c] = false → ∀ y11 y12 y21 g' h', Q .ret ⟨[p0, p1, p2, .list true [], .int .i64 8, x5, x6, x7, x8, .rowp m 1 false n, .list false (cs[c].map eCell), y11, y12, x13, x14, x15, x16, x17, x18, .list false (cs[c].map eCell), .int .i64 n, y21], [], g', h'⟩) :
    wpL L f_trace_Rows_l1 ⟨[p0, p1, p2, .list true [], .int .i64 0, x5, x6, x7, x8, .rowp m 1 false n, .list false (cs[c].map eCell), x11, x12, x13, x14, x15, x16, x17, x18, .list false (cs[c].map eCell), .int .i64 n, .int .i64 0], [], g, H [.cells (rowPV cs n c 0)]⟩ Q := by
  have _ := hL
  refine loop_updG n (fun r => decide ((cs[c].getD r default).kind = 1)) (fun r (x : (PV × PV) × Nat) => [(11, x.1.1), (12, x.1.2), (21, .int .i64 r)]) (fun _ x => x.2) (fun r _ => H [.cells (rowPV cs n c r)]) ((x11, x12), g) ?_ ?_ ?_ rfl rfl rfl
  · intro r hr hz x ih
    have hw := wrap_succ r (by omega)
    have hr2 : r < cs[c].length := by omega
    simp [List.getD, hr2] at hz
    have hat := rowPV_at cs n c r hr
    have hset := rowPV_set cs n c r hr
    have hps := pre_succ cs r c hc
    simp only [List.getD, List.getElem?_eq_getElem hr2, Option.getD_some] at hps
    have hpl := pre_len cs r c
    have hb : (pre cs r c).length ≤ 2147483647 := by omega
    have hlen := rowPV_len cs n c r
    have hatg : ∀ h, (rowPV cs n c r)[r]'h = .list true ((pre cs r c).map (.int .i64)) := fun h => by simp [rowPV]
    rw [hps] at hset
    simp only [List.map_append, List.map_cons, List.map_nil] at hset
    simp [hr, hr2, hz, hw, hH, hH2, hat, hatg, hb, hlen, hset]
    simpa using ih ((_, _), _)
  · intro r hr hz hk x
    have hr2 : r < cs[c].length := by omega
    simp [List.getD, hr2] at hz
    have hp : present cs[c] = false := by
      unfold present
      rw [List.all_eq_false]
      exact ⟨_, List.getElem_mem hr2, by simpa using hz⟩
    simp [hr, hr2, hz]
    exact h1 hp _ _ _ _ _
  · intro hz x
    have hp : present cs[c] = true := by
      unfold present
      rw [List.all_eq_true]
      intro y hy
      obtain ⟨k, hk, rfl⟩ := List.mem_iff_getElem.1 hy
      have := hz k (by omega)
      simpa [List.getD, hk] using this
    rw [rowPV_next]
    simp
    exact h0 hp _ _ _ _

theorem trace_rows (t : Trace) (hok : TrOK t) (hr : t.rows.length ≤ 1000000) (ns : List Str) (hns : ns.length ≤ 1000000) (o : Bool) (h : List PObj) :
    ∃ h', callL L 13 [eTrace t, .list o (ns.map .str)] h = some (.tuple [.list false ((rowsOf t ns).1.map eInts), .int .i64 (rowsOf t ns).2], h') := by
  suffices H : ∃ r, callL L 13 [eTrace t, .list o (ns.map .str)] h = some r ∧ r.1 = .tuple [.list false ((rowsOf t ns).1.map eInts), .int .i64 (rowsOf t ns).2] by
    obtain ⟨⟨v, h'⟩, h1, h2⟩ := H
    exact ⟨h', by rw [h1]; simp at h2; rw [h2]⟩
  refine callL_wpP (hL 13 _ rfl) rfl ?_
  obtain ⟨cs, hcs⟩ : ∃ cs, cs = colsOf t ns := ⟨_, rfl⟩
  have hcl : cs.length = ns.length := by rw [hcs]; simp [colsOf]
  have hcat : ∀ i (hi : i < ns.length), cs[i]? = some ((colOf t ns[i]).getD []) := by intro i hi; rw [hcs]; simp [colsOf, hi]
  obtain ⟨acc, hacc⟩ : ∃ acc : Nat → List Row, ∀ r, acc r = cs.take r := ⟨_, fun _ => rfl⟩
  have ha0 : acc 0 = [] := by rw [hacc]; rfl
  have han : acc ns.length = cs := by rw [hacc, ← hcl]; simp
  generalize hR : rowsOf t ns = R
  simp [f_trace_Rows]
  refine loop_upd ns.length (fun i => (colOf t (ns.getD i [])).isSome) (fun i (x : PV × PV × PV) => [(5, .list true ((acc i).map eRow)), (6, x.1), (7, x.2.1), (8, x.2.2), (15, .int .i64 i)]) (fun _ _ => h) (.dead, .dead, .dead) ?_ ?_ ?_ (by rw [ha0]; rfl) rfl
  · intro i hi hz x ih
    have hw := wrap_succ i (by omega)
    simp only [List.getD, List.getElem?_eq_getElem hi, Option.getD_some] at hz
    obtain ⟨h', hcol⟩ := trace_col hL t hok (by omega) ns[i] []
    have hb : (acc i).length ≤ 2147483647 := by rw [hacc]; simp; omega
    have hts : acc (i + 1) = acc i ++ [(colOf t ns[i]).getD []] := by
      have := hcat i hi
      rw [List.getElem?_eq_getElem (by omega)] at this
      simp at this
      rw [hacc, hacc, take_succ' (by omega), this]
    have hf : PV.list false (((colOf t ns[i]).getD []).map eCell) = eRow ((colOf t ns[i]).getD []) := rfl
    simp [hi, hcol, hz, hw, hb, hf]
    have := ih (.str ns[i], eRow ((colOf t ns[i]).getD []), .bool true)
    rw [hts] at this
    simpa using this
  · intro i hi hz hk x
    simp only [List.getD, List.getElem?_eq_getElem hi, Option.getD_some] at hz
    obtain ⟨h', hcol⟩ := trace_col hL t hok (by omega) ns[i] []
    have hall : (ns.all fun s => (colOf t s).isSome) = false := by
      rw [List.all_eq_false]
      exact ⟨_, List.getElem_mem hi, by simp [hz]⟩
    have : R = ([], 6) := by rw [← hR]; unfold rowsOf; rw [if_pos hall]
    subst this
    simp [hi, hcol, hz, endP]
  · intro hz x
    have hall : (ns.all fun s => (colOf t s).isSome) = true := by
      rw [List.all_eq_true]
      intro s hs
      obtain ⟨k, hk, rfl⟩ := List.mem_iff_getElem.1 hs
      have := hz k hk
      simpa [List.getD, hk] using this
    have hlen : ∀ c (hc : c < cs.length), cs[c].length = t.rows.length := by
      intro c hc
      have h1 := hcat c (by omega)
      rw [List.getElem?_eq_getElem hc] at h1
      simp only [Option.some.injEq] at h1
      rw [h1]
      have h2 := hz c (by omega)
      simp only [List.getD, List.getElem?_eq_getElem (show c < ns.length by omega), Option.getD_some] at h2
      unfold colOf at h2 ⊢
      cases hp : colPos t ns[c] with
      | none => rw [hp] at h2; simp at h2
      | some p => simp [colCells]
    have hR2 : R = if cs.all present = false then ([], 8) else ((List.range t.rows.length).map fun r => pre cs r ns.length, 0) := by
      rw [← hR, hcs]; unfold rowsOf; rw [if_neg (by rw [hall]; simp)]
    have hb24 : 24 * (t.rows.length : Int) ≤ 281474976710656 := by omega
    have hb63 : (t.rows.length : Int) ≤ 9223372036854775807 := by omega
    simp [han, hb24, hb63]
    refine loop_updG cs.length (fun c => present (cs.getD c [])) (fun c (x : (PV × (PV × PV) × (PV × PV × PV)) × Nat) => [(10, x.1.1), (11, x.1.2.1.1), (12, x.1.2.1.2), (18, .int .i64 c), (19, x.1.2.2.1), (20, x.1.2.2.2.1), (21, x.1.2.2.2.2)]) (fun _ x => x.2) (fun c _ => h ++ [.cells (rowPV cs t.rows.length c 0)]) ((.dead, (.dead, .dead), (.dead, .dead, .dead)), 1) ?_ ?_ ?_ (by simp [hcl]) rfl (by rw [rowPV_zero]; simp)
    · intro c hc hz2 x ih
      have hw := wrap_succ c (by omega)
      have hlc := hlen c hc
      simp only [List.getD, List.getElem?_eq_getElem hc, Option.getD_some] at hz2
      simp [hc, eRow, hlc]
      refine rows_col hL cs c t.rows.length hc hlc hr (by omega) h.length (fun X => h ++ X) (fun X => by simp) (fun X Y => by simp) _ _ _ _ _ _ _ _ _ _ _ _ _ _ _ _ ?_ (fun hp => by rw [hz2] at hp; simp at hp)
      intro _ y11 y12 y21 g'
      simp [hw]
      simpa using ih ((_, (_, _), (_, _, _)), _)
    · intro c hc hz2 hk2 x
      have hlc := hlen c hc
      simp only [List.getD, List.getElem?_eq_getElem hc, Option.getD_some] at hz2
      have hall2 : cs.all present = false := by
        rw [List.all_eq_false]
        exact ⟨_, List.getElem_mem hc, by simp [hz2]⟩
      rw [if_pos hall2] at hR2
      subst hR2
      simp [hc, eRow, hlc]
      refine rows_col hL cs c t.rows.length hc hlc hr (by omega) h.length (fun X => h ++ X) (fun X => by simp) (fun X Y => by simp) _ _ _ _ _ _ _ _ _ _ _ _ _ _ _ _ (fun hp => by rw [hz2] at hp; simp at hp) ?_
      intro _ y11 y12 y21 g' h'
      simp [endP]
    · intro hz2 x
      have hall2 : cs.all present = true := by
        rw [List.all_eq_true]
        intro y hy
        obtain ⟨k, hk, rfl⟩ := List.mem_iff_getElem.1 hy
        have := hz2 k hk
        simpa [List.getD, hk] using this
      rw [if_neg (by rw [hall2]; simp)] at hR2
      subst hR2
      have hels := rowPV_els cs ns.length t.rows.length
      rw [← hcl] at hels ⊢
      simp [hels, endP]
end
end PI.Tr
