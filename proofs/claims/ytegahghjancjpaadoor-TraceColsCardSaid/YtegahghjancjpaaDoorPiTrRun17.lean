/-
  The reference's Col and Rows; the law TraceCols, run.
-/
import Derived.Test.YtegahghjancjpaaDoorPiTrRun15
set_option maxRecDepth 100000
set_option linter.unusedSimpArgs false
set_option linter.unusedVariables false
namespace PI.Tr
open Go (IntKind BinOp UnOp)

section
variable {L : Nat → Option PFunc} (hL : ∀ k f, LD k = some f → L k = some f)
include hL

theorem ref_place (t : Trace) (hc : t.cols.length ≤ 140737488355328) (name : Str) (h : List PObj) : callL L 31 [eTrace t, .str name] h = some (.int .i64 (match colPos t name with | some i => (i : Int) | none => -1), h) := by
  refine callL_wp (hL 31 _ rfl) rfl ?_
  generalize hE : colPos t name = E
  simp [f_ref43_place]
  refine loop_upd t.cols.length (fun i => decide (¬ (t.cols.getD i default).name = name)) (fun i (x : Unit) => [(4, .int .i64 i)]) (fun _ _ => h) () ?_ ?_ ?_ rfl rfl
  · intro i hi hz x ih
    have hw := wrap_succ i (by omega)
    simp [List.getD, hi] at hz
    simp [hi, hz, hw]
    simpa using ih ()
  · intro i hi hz hk x
    simp [List.getD, hi] at hz
    have hf : colPos t name = some i := findIdx_at hi (by simpa using hz) (fun k hk' => by have := hk k hk'; have hk2 : k < t.cols.length := (by omega); simpa [List.getD, hk2] using this)
    rw [hf] at hE
    subst hE
    simp [hi, hz]
  · intro hz x
    have hf : colPos t name = none := findIdx_no (fun k hk => by have := hz k hk; simpa [List.getD, hk] using this)
    rw [hf] at hE
    subst hE
    simp

theorem ref_col (t : Trace) (hc : t.cols.length ≤ 140737488355328) (hr : t.rows.length ≤ 2147483647) (hrow : ∀ r ∈ t.rows, r.length ≤ 140737488355328) (name : Str) (h : List PObj) :
    ∃ h', callL L 12 [eTrace t, .str name] h = some (.tuple [.list false (((colOf t name).getD []).map eCell), .bool (colOf t name).isSome], h') := by
  suffices H : ∃ r, callL L 12 [eTrace t, .str name] h = some r ∧ r.1 = .tuple [.list false (((colOf t name).getD []).map eCell), .bool (colOf t name).isSome] by
    obtain ⟨⟨v, h'⟩, h1, h2⟩ := H
    exact ⟨h', by rw [h1]; simp at h2; rw [h2]⟩
  refine callL_wpP (hL 12 _ rfl) rfl ?_
  have hp := ref_place hL t hc name []
  generalize hco : colOf t name = co
  unfold colOf at hco
  cases hpos : colPos t name with
  | none =>
    rw [hpos] at hp hco
    simp at hco
    subst hco
    simp [f_ref43_Col, hp, endP]
  | some i =>
    rw [hpos] at hp hco
    simp at hco
    subst hco
    simp at hp
    have hi0 : ¬ (i : Int) < 0 := by omega
    simp [f_ref43_Col, hp, hi0]
    have hcl : (colCells t i).length = t.rows.length := by simp [colCells]
    obtain ⟨acc, hacc⟩ : ∃ acc : Nat → List Cell, ∀ r, acc r = (colCells t i).take r := ⟨_, fun _ => rfl⟩
    have ha0 : acc 0 = [] := by rw [hacc]; rfl
    have han : acc t.rows.length = colCells t i := by rw [hacc, ← hcl]; simp
    refine loop_updG t.rows.length (fun _ => true) (fun r (x : PV × Nat) => [(6, .list true ((acc r).map eCell)), (7, .int .i64 r), (8, x.1)]) (fun _ x => x.2) (fun _ _ => h) (.dead, 1) ?_ ?_ ?_ (by rw [ha0]; rfl) rfl rfl
    · intro r hr' _ x ih
      have hw := wrap_succ r (by omega)
      have hb : (acc r).length ≤ 2147483647 := by rw [hacc]; simp; omega
      have hts : acc (r + 1) = acc r ++ [t.rows[r].getD i zeroCell] := by
        rw [hacc, hacc, take_succ' (by omega)]; simp [colCells]
      have z0 : PV.agg [.int .i64 0, .int .i64 0] = eCell ⟨0, 0⟩ := rfl
      by_cases hir : i < t.rows[r].length
      · simp [hr', eRow, hir, hw, hb]
        have := ih (.loc x.2 (eCell t.rows[r][i]).cells, x.2 + 1)
        rw [hts] at this
        simpa [List.getD, hir] using this
      · simp [hr', eRow, hir, hw, hb]
        have := ih (.loc x.2 (eCell zeroCell).cells, x.2 + 1)
        rw [hts] at this
        simpa [List.getD, hir, zeroCell, z0] using this
    · intro r _ hz; simp at hz
    · intro _ x
      simp [endP, han]

theorem ref_rows_col (cs : List (List Cell)) (c n : Nat) (hc : c < cs.length) (hn : cs[c].length = n) (hn2 : n ≤ 1000000) (hcb : c ≤ 1000000) (m : Nat) (H : List PObj → List PObj) (hH : ∀ X, (H [X])[m]? = some X) (hH2 : ∀ X Y, (H [X]).set m Y = H [Y])
    (p0 p1 p2 x6 x7 : PV) (g : Nat) {Q : PExit → St → Prop}
    (h0 : present cs[c] = true → ∀ y9, Q (.exit 4) ⟨[p0, p1, p2, .list true [], .int .i64 0, .rowp m 1 false n, x6, x7, .list false (cs[c].map eCell), y9], [], g, H [.cells (rowPV cs n (c + 1) 0)]⟩)
    (h1 : present cs[c] = false → ∀ y9 h', Q .ret ⟨[p0, p1, p2, .list true [], .int .i64 8, .rowp m 1 false n, x6, x7, .list false (cs[c].map eCell), y9], [], g, h'⟩) :
    wpL L f_ref43_Rows_l1 ⟨[p0, p1, p2, .list true [], .int .i64 0, .rowp m 1 false n, x6, x7, .list false (cs[c].map eCell), .int .i64 0], [], g, H [.cells (rowPV cs n c 0)]⟩ Q := by
  have _ := hL
  have hlc : (cs[c].length : Int) = n := by omega
  refine loop_upd n (fun r => decide ((cs[c].getD r default).kind = 1)) (fun r (x : Unit) => [(9, .int .i64 r)]) (fun r _ => H [.cells (rowPV cs n c r)]) () ?_ ?_ ?_ rfl rfl
  · intro r hr hz x ih
    have hw := wrap_succ r (by omega)
    have hr2 : r < cs[c].length := by omega
    simp [List.getD, hr2] at hz
    have hat := rowPV_at cs n c r hr
    have hset := rowPV_set cs n c r hr
    have hps := pre_succ cs r c hc
    simp only [List.getD, List.getElem?_eq_getElem hr2, Option.getD_some] at hps
    have hpl := pre_len cs r c
    have hb : (pre cs r c).length ≤ 2147483647 := by omega
    have hlen := rowPV_len cs n c r
    have hatg : ∀ h, (rowPV cs n c r)[r]'h = .list true ((pre cs r c).map (.int .i64)) := fun h => by simp [rowPV]
    rw [hps] at hset
    simp only [List.map_append, List.map_cons, List.map_nil] at hset
    simp [hlc, hr, hr2, hz, hw, hH, hH2, hat, hatg, hb, hlen, hset]
    simpa using ih ()
  · intro r hr hz hk x
    have hr2 : r < cs[c].length := by omega
    simp [List.getD, hr2] at hz
    have hp : present cs[c] = false := by
      unfold present
      rw [List.all_eq_false]
      exact ⟨_, List.getElem_mem hr2, by simpa using hz⟩
    simp [hlc, hr, hr2, hz]
    exact h1 hp _ _
  · intro hz x
    have hp : present cs[c] = true := by
      unfold present
      rw [List.all_eq_true]
      intro y hy
      obtain ⟨k, hk, rfl⟩ := List.mem_iff_getElem.1 hy
      have := hz k (by omega)
      simpa [List.getD, hk] using this
    rw [rowPV_next]
    simp [hlc]
    exact h0 hp _

theorem ref_rows (t : Trace) (hc : t.cols.length ≤ 140737488355328) (hr : t.rows.length ≤ 1000000) (hrow : ∀ r ∈ t.rows, r.length ≤ 140737488355328) (ns : List Str) (hns : ns.length ≤ 1000000) (o : Bool) (h : List PObj) :
    ∃ h', callL L 14 [eTrace t, .list o (ns.map .str)] h = some (.tuple [.list false ((rowsOf t ns).1.map eInts), .int .i64 (rowsOf t ns).2], h') := by
  suffices H : ∃ r, callL L 14 [eTrace t, .list o (ns.map .str)] h = some r ∧ r.1 = .tuple [.list false ((rowsOf t ns).1.map eInts), .int .i64 (rowsOf t ns).2] by
    obtain ⟨⟨v, h'⟩, h1, h2⟩ := H
    exact ⟨h', by rw [h1]; simp at h2; rw [h2]⟩
  refine callL_wpP (hL 14 _ rfl) rfl ?_
  obtain ⟨cs, hcs⟩ : ∃ cs, cs = colsOf t ns := ⟨_, rfl⟩
  have hcl : cs.length = ns.length := by rw [hcs]; simp [colsOf]
  have hcat : ∀ i (hi : i < ns.length), cs[i]? = some ((colOf t ns[i]).getD []) := by intro i hi; rw [hcs]; simp [colsOf, hi]
  generalize hR : rowsOf t ns = R
  have hb24 : 24 * (t.rows.length : Int) ≤ 281474976710656 := by omega
  have hb63 : (t.rows.length : Int) ≤ 9223372036854775807 := by omega
  simp [f_ref43_Rows, hb24, hb63]
  have hpos : ∀ s, (colOf t s).isSome = (colPos t s).isSome := fun s => by unfold colOf; cases colPos t s <;> rfl
  refine loop_upd ns.length (fun i => (colOf t (ns.getD i [])).isSome) (fun i (x : Unit) => [(6, .int .i64 i)]) (fun _ _ => h ++ [.cells (List.replicate t.rows.length [PV.list true []]).flatten]) () ?_ ?_ ?_ rfl (by simp)
  · intro i hi hz x ih
    have hw := wrap_succ i (by omega)
    simp only [List.getD, List.getElem?_eq_getElem hi, Option.getD_some] at hz
    have hp := ref_place hL t hc ns[i] []
    rw [hpos] at hz
    cases hx : colPos t ns[i] with
    | none => rw [hx] at hz; simp at hz
    | some p =>
      rw [hx] at hp
      simp at hp
      have hp0 : ¬ (p : Int) < 0 := by omega
      simp [hi, hp, hp0, hw]
      simpa using ih ()
  · intro i hi hz hk x
    simp only [List.getD, List.getElem?_eq_getElem hi, Option.getD_some] at hz
    have hp := ref_place hL t hc ns[i] []
    have hall : (ns.all fun s => (colOf t s).isSome) = false := by
      rw [List.all_eq_false]
      exact ⟨_, List.getElem_mem hi, by simp [hz]⟩
    have : R = ([], 6) := by rw [← hR]; unfold rowsOf; rw [if_pos hall]
    subst this
    rw [hpos] at hz
    cases hx : colPos t ns[i] with
    | some p => rw [hx] at hz; simp at hz
    | none =>
      rw [hx] at hp
      simp at hp
      simp [hi, hp, endP]
  · intro hz x
    have hall : (ns.all fun s => (colOf t s).isSome) = true := by
      rw [List.all_eq_true]
      intro s hs
      obtain ⟨k, hk, rfl⟩ := List.mem_iff_getElem.1 hs
      have := hz k hk
      simpa [List.getD, hk] using this
    have hlen : ∀ c (hc : c < cs.length), cs[c].length = t.rows.length := by
      intro c hc
      have h1 := hcat c (by omega)
      rw [List.getElem?_eq_getElem hc] at h1
      simp only [Option.some.injEq] at h1
      rw [h1]
      have h2 := hz c (by omega)
      simp only [List.getD, List.getElem?_eq_getElem (show c < ns.length by omega), Option.getD_some] at h2
      unfold colOf at h2 ⊢
      cases hp : colPos t ns[c] with
      | none => rw [hp] at h2; simp at h2
      | some p => simp [colCells]
    have hR2 : R = if cs.all present = false then ([], 8) else ((List.range t.rows.length).map fun r => pre cs r ns.length, 0) := by
      rw [← hR, hcs]; unfold rowsOf; rw [if_neg (by rw [hall]; simp)]
    have hcat2 : ∀ c (hc : c < cs.length) (hc' : c < ns.length), (colOf t ns[c]).getD [] = cs[c] ∧ (colOf t ns[c]).isSome = true := by
      intro c hc hc'
      have h1 := hcat c hc'
      rw [List.getElem?_eq_getElem hc] at h1
      simp only [Option.some.injEq] at h1
      have h2 := hz c hc'
      simp only [List.getD, List.getElem?_eq_getElem hc', Option.getD_some] at h2
      exact ⟨h1.symm, h2⟩
    simp
    refine loop_upd cs.length (fun c => present (cs.getD c [])) (fun c (x : PV × PV) => [(7, .int .i64 c), (8, x.1), (9, x.2)]) (fun c _ => h ++ [.cells (rowPV cs t.rows.length c 0)]) (.dead, .dead) ?_ ?_ ?_ rfl (by rw [rowPV_zero]; simp)
    · intro c hc' hz2 x ih
      have hw := wrap_succ c (by omega)
      have hlc := hlen c hc'
      have hcn : c < ns.length := by omega
      simp only [List.getD, List.getElem?_eq_getElem hc', Option.getD_some] at hz2
      obtain ⟨h1, hcol⟩ := ref_col hL t hc (by omega) hrow ns[c] []
      obtain ⟨e1, e2⟩ := hcat2 c hc' hcn
      rw [e1, e2] at hcol
      simp [hcn, hcol]
      refine ref_rows_col hL cs c t.rows.length hc' hlc hr (by omega) h.length (fun X => h ++ X) (fun X => by simp) (fun X Y => by simp) _ _ _ _ _ _ ?_ (fun hp => by rw [hz2] at hp; simp at hp)
      intro _ y9
      simp [hw]
      simpa using ih (_, _)
    · intro c hc' hz2 hk2 x
      have hlc := hlen c hc'
      have hcn : c < ns.length := by omega
      simp only [List.getD, List.getElem?_eq_getElem hc', Option.getD_some] at hz2
      have hall2 : cs.all present = false := by
        rw [List.all_eq_false]
        exact ⟨_, List.getElem_mem hc', by simp [hz2]⟩
      rw [if_pos hall2] at hR2
      subst hR2
      obtain ⟨h1, hcol⟩ := ref_col hL t hc (by omega) hrow ns[c] []
      obtain ⟨e1, e2⟩ := hcat2 c hc' hcn
      rw [e1, e2] at hcol
      simp [hcn, hcol]
      refine ref_rows_col hL cs c t.rows.length hc' hlc hr (by omega) h.length (fun X => h ++ X) (fun X => by simp) (fun X Y => by simp) _ _ _ _ _ _ (fun hp => by rw [hz2] at hp; simp at hp) ?_
      intro _ y9 h'
      simp [endP]
    · intro hz2 x
      have hall2 : cs.all present = true := by
        rw [List.all_eq_true]
        intro y hy
        obtain ⟨k, hk, rfl⟩ := List.mem_iff_getElem.1 hy
        have := hz2 k hk
        simpa [List.getD, hk] using this
      rw [if_neg (by rw [hall2]; simp)] at hR2
      subst hR2
      have hels := rowPV_els cs ns.length t.rows.length
      rw [← hcl] at hels ⊢
      simp [hcl]
      rw [← hcl]
      simp [hels, endP]

theorem same_tables (a b : List (List Int)) (ha : a.length ≤ 1000000) (ha2 : ∀ l ∈ a, l.length ≤ 2147483647) (o o' : Bool) (h : List PObj) : callL L 16 [.list o (a.map eInts), .list o' (b.map eInts)] h = some (.bool (decide (a = b)), h) := by
  have hLc : ∀ k f, Lc k = some f → L k = some f := fun k f hk => hL k f (LD_c k f hk)
  have hcell : ∀ l : List Int, (eInts l).cells = [eInts l] := fun _ => rfl
  have hcp : ∀ l : List Int, cp (eInts l) = some (eInts l) := fun _ => rfl
  have hdm : ∀ l : List Int, dem (eInts l) = eInts l := fun _ => rfl
  have hfl : ∀ l : List Int, (eInts l).flat = true := fun _ => rfl
  have hfr : ∀ l : List Int, refFree (eInts l) = true := fun l => by simp [eInts]
  refine callL_wp (hL 16 _ rfl) rfl ?_
  by_cases hl : a.length = b.length
  · have hl' : (a.length : Int) = b.length := by omega
    generalize hE : decide (a = b) = E
    simp [f_law43_tables, hl']
    refine loop_upd a.length (fun i => decide (a.getD i [] = b.getD i [])) (fun i (x : Unit) => [(3, .int .i64 i)]) (fun _ _ => h) () ?_ ?_ ?_ rfl rfl
    · intro i hi hz x ih
      have hw := wrap_succ i (by omega)
      have hi2 : i < b.length := by omega
      simp [List.getD, hi, hi2] at hz
      have hs : callL L 19 [eInts a[i], eInts b[i]] [] = some (.bool (decide (a[i] = b[i])), []) := same_ints hLc a[i] b[i] (ha2 _ (List.getElem_mem hi)) false false []
      rw [hz] at hs
      simp [hi, hi2, hcell, hcp, hdm, hfr, hfl, hs, hz, hw]
      simpa using ih ()
    · intro i hi hz hk x
      have hi2 : i < b.length := by omega
      simp [List.getD, hi, hi2] at hz
      have hs : callL L 19 [eInts a[i], eInts b[i]] [] = some (.bool (decide (a[i] = b[i])), []) := same_ints hLc a[i] b[i] (ha2 _ (List.getElem_mem hi)) false false []
      have hne : E = false := by
        rw [← hE, decide_eq_false_iff_not]
        rintro rfl; exact hz rfl
      subst hne
      simp [hi, hi2, hcell, hcp, hdm, hfr, hfl, hs, hz]
    · intro hz x
      have heq : a = b := by
        apply List.ext_getElem hl
        intro k h1 h2
        have := hz k h1
        simpa [List.getD, h1, h2] using this
      have : E = true := by rw [← hE]; simp [heq]
      subst this
      simp
  · have hl' : ¬ (a.length : Int) = b.length := by omega
    have hne : ¬ a = b := by rintro rfl; exact hl rfl
    simp [f_law43_tables, hl', hne]

theorem law_cols (t : Trace) (hok : TrOK t) (hln : Lens t) (name : Str) (ns : List Str) (hns : Len ns.length) (o : Bool) (h : List PObj) : callL L 2 [eTrace t, .str name, .list o (ns.map .str)] h = some (.bool true, h) := by
  have hLc : ∀ k f, Lc k = some f → L k = some f := fun k f hk => hL k f (LD_c k f hk)
  have haw := law_awake hLc []
  have hlt := law_light hLc t hln.row hok.cols.1 hok.rows []
  refine callL_wp (hL 2 _ rfl) rfl ?_
  cases hlight : light t with
  | false =>
    rw [hlight] at hlt
    simp [f_law43_TraceCols, hlt, haw]
  | true =>
    rw [hlight] at hlt
    by_cases h20 : 20 < ns.length
    · have h20' : (20 : Int) < ns.length := by omega
      simp [f_law43_TraceCols, hlt, h20', haw]
    · have h20' : ¬ (20 : Int) < ns.length := by omega
      have hl := hlight
      simp only [light, decide_eq_true_eq] at hl
      obtain ⟨h1, hc1⟩ := trace_col hLc t hok (by omega) name []
      obtain ⟨h2, hc2⟩ := ref_col hL t hln.cols (by omega) hln.row name []
      obtain ⟨h3, hr1⟩ := trace_rows hLc t hok (by omega) ns (by omega) false []
      obtain ⟨h4, hr2⟩ := ref_rows hL t hln.cols (by omega) hln.row ns (by omega) false []
      have hcl : ((colOf t name).getD []).length ≤ 2147483647 := by
        unfold colOf
        cases colPos t name with
        | none => simp
        | some i => simp [colCells]; omega
      have hsc := same_cells hLc ((colOf t name).getD []) ((colOf t name).getD []) hcl false false []
      have hrl : (rowsOf t ns).1.length ≤ 1000000 ∧ ∀ l ∈ (rowsOf t ns).1, l.length ≤ 2147483647 := by
        unfold rowsOf
        split
        · simp
        · split
          · simp
          · refine ⟨by simp; omega, ?_⟩
            intro l hl'
            simp only [List.mem_map, List.mem_range] at hl'
            obtain ⟨k, _, rfl⟩ := hl'
            have := pre_len (colsOf t ns) k ns.length
            omega
      have hst := same_tables hL (rowsOf t ns).1 (rowsOf t ns).1 hrl.1 hrl.2 false false []
      generalize (colOf t name).getD [] = c at *
      generalize (colOf t name).isSome = b at *
      generalize rowsOf t ns = R at *
      obtain ⟨R1, R2⟩ := R
      have hfi : ∀ l : List (List Int), refFrees (l.map eInts) = true := by
        intro l
        induction l with
        | nil => rfl
        | cons a r ih => simp only [List.map_cons, refFrees, ih, Bool.and_true]; simp [eInts]
      simp at hsc hst
      simp [f_law43_TraceCols, hlt, h20', hc1, hc2, hr1, hr2, hfi, hsc, hst, haw]
end
end PI.Tr
