import Derived.Test.YtegahghjancjpaaGreatDoorPiCtData
set_option maxRecDepth 100000
set_option linter.unusedSimpArgs false
set_option linter.unusedVariables false
namespace PI.Ct
open Go (IntKind BinOp UnOp)
open Tr
theorem list_eq {α : Type} {a b : List α} (hl : a.length = b.length) (h : ∀ k, k < a.length → a[k]? = b[k]?) : a = b := by
  apply List.ext_getElem?
  intro k
  by_cases hk : k < a.length
  · exact h k hk
  · rw [List.getElem?_eq_none (by omega), List.getElem?_eq_none (by omega)]
theorem list_ne {α : Type} {a b : List α} {k : Nat} (h : ¬ a[k]? = b[k]?) : ¬ a = b := fun e => h (by rw [e])
theorem Decl.ext_iff' {x y : Decl} : x = y ↔ x.name = y.name ∧ x.type = y.type ∧ x.clock = y.clock := by
  cases x; cases y; simp
theorem eqOn (a b : List On) (o o' : Bool) (ha : Len a.length) (hb : Len b.length) (h : List PObj) : callL L 240 [.list o (a.map eOn), .list o' (b.map eOn)] h = some (.bool (decide (a = b)), h) := by
  refine callL_wp rfl rfl ?_
  by_cases hl : a.length = b.length
  · simp [f_slices_Equal_api_On, hl]
    refine loop_all b.length (fun i => decide (a[i]? = b[i]?)) (fun i (x : PV) => ⟨[.list false (a.map eOn), .list false (b.map eOn), .bool false, x, .int .i64 b.length, .int .i64 i], [], 0, h⟩) ?_ ?_ ?_ .dead
    · intro i hi hok x ih
      have hw := wrap_succ i (by unfold Len at hb; omega)
      have hia : i < a.length := by omega
      simp [hia, hi] at hok
      simp [hia, hi, hok, hw, hl]
      exact ih _
    · intro i hi hok _ x
      have hia : i < a.length := by omega
      have hne := list_ne (of_decide_eq_false hok)
      simp [hia, hi] at hok
      simp [hia, hi, hok, hl, hne]
    · intro hok x
      have e := list_eq hl (fun k hk => of_decide_eq_true (hok k (by omega)))
      simp [e]
  · have : ¬ (a.length : Int) = b.length := by omega
    have hne : ¬ a = b := by rintro rfl; exact hl rfl
    simp [f_slices_Equal_api_On, this, hne]
theorem eqCell (a b : List Cell) (o o' : Bool) (ha : Len a.length) (hb : Len b.length) (h : List PObj) : callL L 243 [.list o (a.map eCell), .list o' (b.map eCell)] h = some (.bool (decide (a = b)), h) := by
  refine callL_wp rfl rfl ?_
  by_cases hl : a.length = b.length
  · simp [f_slices_Equal_api_Cell, hl]
    refine loop_all b.length (fun i => decide (a[i]? = b[i]?)) (fun i (x : PV) => ⟨[.list false (a.map eCell), .list false (b.map eCell), .bool false, x, .int .i64 b.length, .int .i64 i], [], 0, h⟩) ?_ ?_ ?_ .dead
    · intro i hi hok x ih
      have hw := wrap_succ i (by unfold Len at hb; omega)
      have hia : i < a.length := by omega
      simp [hia, hi] at hok
      simp [hia, hi, hok, hw, hl]
      exact ih _
    · intro i hi hok _ x
      have hia : i < a.length := by omega
      have hne := list_ne (of_decide_eq_false hok)
      simp [hia, hi] at hok
      simp [hia, hi, hok, hl, hne]
    · intro hok x
      have e := list_eq hl (fun k hk => of_decide_eq_true (hok k (by omega)))
      simp [e]
  · have : ¬ (a.length : Int) = b.length := by omega
    have hne : ¬ a = b := by rintro rfl; exact hl rfl
    simp [f_slices_Equal_api_Cell, this, hne]
theorem equal1 (a b : Row) (o o' : Bool) (ha : Len a.length) (hb : Len b.length) (h : List PObj) : callL L 242 [.list o (a.map eCell), .list o' (b.map eCell)] h = some (.bool (decide (a = b)), h) := by
  refine callL_wp rfl rfl ?_
  simp [f_compare_equal_1, eqCell a b _ _ ha hb]
theorem same1 (x y : Decl) (hx : Len x.clock.length) (hy : Len y.clock.length) (h : List PObj) : callL L 239 [eDecl x, eDecl y] h = some (.bool (decide (x = y)), h) := by
  refine callL_wp rfl rfl ?_
  by_cases h1 : x.name = y.name
  · by_cases h2 : x.type = y.type
    · simp [f_compare_same_1, eqOn x.clock y.clock _ _ hx hy, h1, h2, Decl.ext_iff']
    · simp [f_compare_same_1, h1, h2, Decl.ext_iff']
  · simp [f_compare_same_1, h1, Decl.ext_iff']
theorem equalRows (a b : List Row) (o o' : Bool) (ha : Len a.length) (hb : Len b.length) (ra : ∀ r ∈ a, Len r.length) (rb : ∀ r ∈ b, Len r.length) (h : List PObj) : callL L 241 [.list o (a.map eRow), .list o' (b.map eRow), .func 242 [] []] h = some (.bool (decide (a = b)), h) := by
  refine callL_wp rfl rfl ?_
  by_cases hl : a.length = b.length
  · simp [f_slices_EqualFunc_api_Cell, hl]
    refine loop_all b.length (fun i => decide (a[i]? = b[i]?)) (fun i (x : PV × PV × PV) => ⟨[.list false (a.map eRow), .list false (b.map eRow), .func 242 [] [], .bool false, x.1, x.2.1, x.2.2, .list false (a.map eRow), .int .i64 b.length, .int .i64 i], [], 0, h⟩) ?_ ?_ ?_ (.dead, .dead, .dead)
    · intro i hi hok x ih
      have hw := wrap_succ i (by unfold Len at hb; omega)
      have hia : i < a.length := by omega
      simp [hia, hi] at hok
      have q1 := rb b[i] (List.getElem_mem hi)
      have q2 := rb b[i] (List.getElem_mem hi)
      have q3 := equal1 b[i] b[i] false false q1 q2 h
      simp [hia, hi, hok, hw, hl, eRow, q3]
      exact ih (_, _, _)
    · intro i hi hok _ x
      have hia : i < a.length := by omega
      have hne := list_ne (of_decide_eq_false hok)
      simp [hia, hi] at hok
      have q1 := ra a[i] (List.getElem_mem hia)
      have q2 := rb b[i] (List.getElem_mem hi)
      have q3 := equal1 a[i] b[i] false false q1 q2 h
      simp [hia, hi, hok, hl, hne, eRow, q3]
    · intro hok x
      have e := list_eq hl (fun k hk => of_decide_eq_true (hok k (by omega)))
      simp [e]
  · have : ¬ (a.length : Int) = b.length := by omega
    have hne : ¬ a = b := by rintro rfl; exact hl rfl
    simp [f_slices_EqualFunc_api_Cell, this, hne]
theorem equalDecls (a b : List Decl) (o o' : Bool) (ha : Len a.length) (hb : Len b.length) (ra : ∀ r ∈ a, Len r.clock.length) (rb : ∀ r ∈ b, Len r.clock.length) (h : List PObj) : callL L 238 [.list o (a.map eDecl), .list o' (b.map eDecl), .func 239 [] []] h = some (.bool (decide (a = b)), h) := by
  refine callL_wp rfl rfl ?_
  by_cases hl : a.length = b.length
  · simp [f_slices_EqualFunc_api_Decl, hl]
    refine loop_all b.length (fun i => decide (a[i]? = b[i]?)) (fun i (x : PV × PV × PV × Nat) => ⟨[.list false (a.map eDecl), .list false (b.map eDecl), .func 239 [] [], .bool false, x.1, x.2.1, x.2.2.1, .list false (a.map eDecl), .int .i64 b.length, .int .i64 i], [], x.2.2.2, h⟩) ?_ ?_ ?_ (.dead, .dead, .dead, 0)
    · intro i hi hok x ih
      have hw := wrap_succ i (by unfold Len at hb; omega)
      have hia : i < a.length := by omega
      simp [hia, hi] at hok
      have q1 := rb b[i] (List.getElem_mem hi)
      have q2 := rb b[i] (List.getElem_mem hi)
      have q3 := same1 b[i] b[i] q1 q2 h
      simp [hia, hi, hok, hw, hl, q3]
      exact ih (_, _, _, _)
    · intro i hi hok _ x
      have hia : i < a.length := by omega
      have hne := list_ne (of_decide_eq_false hok)
      simp [hia, hi] at hok
      have q1 := ra a[i] (List.getElem_mem hia)
      have q2 := rb b[i] (List.getElem_mem hi)
      have q3 := same1 a[i] b[i] q1 q2 h
      simp [hia, hi, hok, hl, hne, q3]
    · intro hok x
      have e := list_eq hl (fun k hk => of_decide_eq_true (hok k (by omega)))
      simp [e]
  · have : ¬ (a.length : Int) = b.length := by omega
    have hne : ¬ a = b := by rintro rfl; exact hl rfl
    simp [f_slices_EqualFunc_api_Decl, this, hne]
end PI.Ct
set_option maxRecDepth 100000
set_option linter.unusedSimpArgs false
set_option linter.unusedVariables false
namespace PI.Ct
open Go (IntKind BinOp UnOp)
open Tr
def idx (cols : List Decl) (s : List UInt8) : Option Nat := cols.findIdx? (fun d => decide (d.name = s))
theorem idx_some {cols : List Decl} {s : List UInt8} {i : Nat} (hi : i < cols.length) (h : cols[i].name = s) (hk : ∀ k (hk : k < i), ¬ (cols[k]'(by omega)).name = s) : idx cols s = some i := by
  unfold idx
  rw [List.findIdx?_eq_some_iff_getElem]
  exact ⟨hi, by simpa using h, fun j hj => by simpa using hk j hj⟩
theorem idx_lt {cols : List Decl} {s : List UInt8} {i : Nat} (h : idx cols s = some i) : ∃ hi : i < cols.length, cols[i].name = s := by
  unfold idx at h
  rw [List.findIdx?_eq_some_iff_getElem] at h
  obtain ⟨h1, h2, _⟩ := h
  exact ⟨h1, by simpa using h2⟩
theorem index (l : List (List UInt8)) (s : List UInt8) (o : Bool) (hl : Len l.length) (h : List PObj) : ∃ n : Int, callL L 245 [.list o (l.map .str), .str s] h = some (.int .i64 n, h) ∧ (0 ≤ n ↔ s ∈ l) := by
  suffices H : ∃ r, callL L 245 [.list o (l.map .str), .str s] h = some r ∧ ∃ n : Int, r = (.int .i64 n, h) ∧ (0 ≤ n ↔ s ∈ l) by
    obtain ⟨r, h1, n, rfl, h2⟩ := H
    exact ⟨n, h1, h2⟩
  refine callL_wpP (f := f_slices_Index_string) (P := fun r => ∃ n : Int, r = (.int .i64 n, h) ∧ (0 ≤ n ↔ s ∈ l)) rfl rfl ?_
  simp [f_slices_Index_string]
  refine loop_all l.length (fun i => decide (¬ l[i]? = some s)) (fun i (x : PV) => ⟨[.list false (l.map .str), .str s, .int .i64 0, x, .int .i64 l.length, .int .i64 i], [], 0, h⟩) ?_ ?_ ?_ .dead
  · intro i hi hok x ih
    have hw := wrap_succ i (by unfold Len at hl; omega)
    simp [hi] at hok
    have hok' : ¬ s = l[i] := fun e => hok e.symm
    simp [hi, hok', hw]
    exact ih _
  · intro i hi hok _ x
    simp [hi] at hok
    have hm : s ∈ l := by rw [← hok]; exact List.getElem_mem hi
    simp [hi, hok, endP, hm]
  · intro hok x
    have hm : ¬ s ∈ l := by
      intro hm
      obtain ⟨k, hk, e⟩ := List.mem_iff_getElem.1 hm
      have := hok k hk
      simp [hk, e] at this
    simp [endP, hm]
theorem contains (l : List (List UInt8)) (s : List UInt8) (o : Bool) (hl : Len l.length) (h : List PObj) : callL L 226 [.list o (l.map .str), .str s] h = some (.bool (decide (s ∈ l)), h) := by
  obtain ⟨n, h1, h2⟩ := index l s false hl []
  refine callL_wp rfl rfl ?_
  have : decide (n ≥ 0) = decide (s ∈ l) := decide_eq_decide.2 h2
  simp [f_slices_Contains_string, h1, this]
def zeroCell : Cell := ⟨0, 0⟩
theorem zero_cell : PV.agg [.int .i64 0, .int .i64 0] = eCell zeroCell := rfl
theorem cell (r : Row) (k : Nat) (o : Bool) (hl : Len r.length) (h : List PObj) : callL L 229 [.list o (r.map eCell), .int .i64 k] h = some (eCell (r.getD k zeroCell), h) := by
  refine callL_wp rfl rfl ?_
  by_cases hk : k < r.length
  · have hk' : (k : Int) < r.length := by omega
    simp [f_compare_cell, hk, hk', List.getD_eq_getElem?_getD]
  · have hk' : ¬ (k : Int) < r.length := by omega
    simp [f_compare_cell, hk, hk', List.getD_eq_getElem?_getD, setParts, zero_cell]
theorem cloneOn (l : List On) (o : Bool) (hl : l.length * 32 ≤ 140737488351232) (h : List PObj) : callL L 246 [.list o (l.map eOn)] h = some (.list true (l.map eOn), h) := by
  refine callL_split rfl rfl rfl ?_ ?_
  · intro hv
    cases l with
    | nil => simp at hv
    | cons x l =>
      rw [List.length_cons] at hl
      have h1 : l.length + 1 ≤ 9223372036854775807 := by omega
      have h2 : (l.length + 1) * 32 ≤ 140737488355328 := by omega
      simp [f_slices_Clone_api_On, h1, h2]
  · intro hv
    cases l with
    | nil => simp [f_slices_Clone_api_On]
    | cons x l => simp at hv
theorem cloneCell (l : Row) (o : Bool) (hl : l.length ≤ 2147483648) (h : List PObj) : callL L 232 [.list o (l.map eCell)] h = some (.list true (l.map eCell), h) := by
  refine callL_split rfl rfl rfl ?_ ?_
  · intro hv
    cases l with
    | nil => simp at hv
    | cons x l => simp at hl; simp [f_slices_Clone_api_Cell, hl]
  · intro hv
    cases l with
    | nil => simp [f_slices_Clone_api_Cell]
    | cons x l => simp at hv
theorem copied (d : Decl) (hl : d.clock.length * 32 ≤ 140737488351232) (h : List PObj) : callL L 231 [eDecl d] h = some (eDecl d, h) := by
  have hc := cloneOn d.clock false hl []
  refine callL_wp rfl rfl ?_
  simp [f_compare_copied, hc]
structure TraceOk (t : Trace) : Prop where
  c : Len t.cols.length
  r : Len t.rows.length
  cs : ∀ d ∈ t.cols, Len d.clock.length
  rs : ∀ r ∈ t.rows, Len r.length
theorem same (a b : List Decl) (o o' : Bool) (ha : Len a.length) (hb : Len b.length) (ra : ∀ r ∈ a, Len r.clock.length) (rb : ∀ r ∈ b, Len r.clock.length) (h : List PObj) : callL L 222 [.list o (a.map eDecl), .list o' (b.map eDecl)] h = some (.bool (decide (a = b)), h) := by
  refine callL_wp rfl rfl ?_
  simp [f_compare_same, equalDecls a b false false ha hb ra rb []]
theorem equal (a b : List Row) (o o' : Bool) (ha : Len a.length) (hb : Len b.length) (ra : ∀ r ∈ a, Len r.length) (rb : ∀ r ∈ b, Len r.length) (h : List PObj) : callL L 223 [.list o (a.map eRow), .list o' (b.map eRow)] h = some (.bool (decide (a = b)), h) := by
  refine callL_wp rfl rfl ?_
  simp [f_compare_equal, equalRows a b false false ha hb ra rb []]
theorem Trace.ext_iff' {x y : Trace} : x = y ↔ x.cols = y.cols ∧ x.rows = y.rows := by
  cases x; cases y; simp
theorem pSame (a b : Trace) (ha : TraceOk a) (hb : TraceOk b) (h : List PObj) : callL L 206 [eTrace a, eTrace b] h = some (.bool (decide (a = b)), h) := by
  have h1 := same a.cols b.cols false false ha.c hb.c ha.cs hb.cs []
  have h2 := equal a.rows b.rows false false ha.r hb.r ha.rs hb.rs []
  refine callL_wp rfl rfl ?_
  by_cases e : a.cols = b.cols
  · rw [e] at h1
    simp [f_compare_Same, h1, h2, e, Trace.ext_iff']
  · simp [f_compare_Same, h1, h2, e, Trace.ext_iff']
def isPrefix (a b : Trace) : Bool := decide (a.cols = b.cols) && decide (a.rows.length ≤ b.rows.length) && decide (a.rows = b.rows.take a.rows.length)
theorem pPrefix (a b : Trace) (ha : TraceOk a) (hb : TraceOk b) (h : List PObj) : callL L 217 [eTrace a, eTrace b] h = some (.bool (isPrefix a b), h) := by
  have h1 := same a.cols b.cols false false ha.c hb.c ha.cs hb.cs []
  refine callL_wp rfl rfl ?_
  unfold isPrefix
  by_cases e : a.cols = b.cols
  · rw [e] at h1
    by_cases e2 : a.rows.length ≤ b.rows.length
    · have e3 : (a.rows.length : Int) ≤ b.rows.length := by omega
      have h2 := equal a.rows (b.rows.take a.rows.length) false false ha.r (by rw [List.length_take]; have := hb.r; unfold Len at *; omega) ha.rs (fun r hr => hb.rs r (List.mem_of_mem_take hr)) []
      rw [List.map_take] at h2
      simp [f_compare_Prefix, h1, h2, e, e2, e3]
    · have e3 : ¬ (a.rows.length : Int) ≤ b.rows.length := by omega
      simp [f_compare_Prefix, h1, e, e2, e3]
  · simp [f_compare_Prefix, h1, e]
end PI.Ct
set_option maxRecDepth 100000
set_option linter.unusedSimpArgs false
set_option linter.unusedVariables false
namespace PI.Ct
open Go (IntKind BinOp UnOp)
open Tr
theorem mfind_snoc (k : List UInt8) (k' : List UInt8) (v : PV) : ∀ (es : List (PV × PV)) (i : Nat), mfind false [.s] (.str k) (es ++ [(.str k', v)]) i = match mfind false [.s] (.str k) es i with
    | some none => some (if k = k' then some (i + es.length, v) else none)
    | r => r
  | [], i => by simp [mfind]; by_cases h : k = k' <;> simp [h]
  | e :: es, i => by
    simp only [List.cons_append, mfind]
    cases hp : peq false [.s] (.str k) e.1 with
    | none => rfl
    | some b =>
      cases b with
      | true => rfl
      | false =>
        simp only [Option.bind_some, Bool.false_eq_true, if_false]
        rw [mfind_snoc k k' v es (i + 1)]
        cases hm : mfind false [.s] (.str k) es (i + 1) with
        | none => rfl
        | some r =>
          cases r with
          | none => simp only [List.length_cons]; by_cases h : k = k' <;> simp [h]; omega
          | some q => rfl
def cmapN (cols : List Decl) : Nat → List (PV × PV)
  | 0 => []
  | i + 1 => match cols[i]? with
    | some c => if idx (cols.take i) c.name = none then cmapN cols i ++ [(.str c.name, .int .i64 i)] else cmapN cols i
    | none => cmapN cols i
theorem idx_snoc (l : List Decl) (c : Decl) (s : List UInt8) : idx (l ++ [c]) s = match idx l s with
    | some i => some i
    | none => if c.name = s then some l.length else none := by
  unfold idx
  rw [List.findIdx?_append]
  cases h : l.findIdx? (fun d => decide (d.name = s)) with
  | some i => simp
  | none => simp [List.findIdx?_cons]
theorem take_succ' {α : Type} {l : List α} {i : Nat} (h : i < l.length) : l.take (i + 1) = l.take i ++ [l[i]] := List.take_succ_eq_append_getElem h
theorem cmapN_find (cols : List Decl) (s : List UInt8) : ∀ i, i ≤ cols.length → ∃ r, mfind false [.s] (.str s) (cmapN cols i) 0 = some r ∧ r.map Prod.snd = (idx (cols.take i) s).map (fun n => .int .i64 (n : Nat))
  | 0, _ => ⟨none, rfl, by simp [idx]⟩
  | i + 1, h => by
    obtain ⟨r, h1, h2⟩ := cmapN_find cols s i (by omega)
    have hi : i < cols.length := by omega
    rw [take_succ' hi, idx_snoc]
    simp only [cmapN, List.getElem?_eq_getElem hi]
    by_cases hn : idx (cols.take i) cols[i].name = none
    · rw [if_pos hn, mfind_snoc, h1]
      cases r with
      | none =>
        have h3 : idx (cols.take i) s = none := by cases hq : idx (cols.take i) s <;> simp [hq] at h2 ⊢
        refine ⟨_, rfl, ?_⟩
        rw [h3]
        by_cases e : s = cols[i].name
        · subst e; simp [Nat.min_eq_left (Nat.le_of_lt hi)]
        · have e' : ¬ cols[i].name = s := fun x => e x.symm
          simp [e, e']
      | some q =>
        refine ⟨_, rfl, ?_⟩
        rw [h2]
        cases hq : idx (cols.take i) s with
        | none => rw [hq] at h2; simp at h2
        | some k => rfl
    · rw [if_neg hn]
      refine ⟨r, h1, ?_⟩
      rw [h2]
      cases hq : idx (cols.take i) s with
      | some k => rfl
      | none =>
        have : ¬ cols[i].name = s := fun e => hn (by rw [e]; exact hq)
        simp [this]
def cmap (cols : List Decl) : List (PV × PV) := cmapN cols cols.length
theorem cmap_find (cols : List Decl) (s : List UInt8) : ∃ r, mfind false [.s] (.str s) (cmap cols) 0 = some r ∧ r.map Prod.snd = (idx cols s).map (fun n => .int .i64 (n : Nat)) := by
  have := cmapN_find cols s cols.length (Nat.le_refl _)
  rw [List.take_length] at this
  exact this
theorem cmap_some {cols : List Decl} {s : List UInt8} {k : Nat} (h : idx cols s = some k) : ∃ p, mfind false [.s] (.str s) (cmap cols) 0 = some (some (p, .int .i64 (k : Nat))) := by
  obtain ⟨r, h1, h2⟩ := cmap_find cols s
  rw [h] at h2
  cases r with
  | none => simp at h2
  | some q => obtain ⟨p, v⟩ := q; simp at h2; subst h2; exact ⟨p, h1⟩
theorem cmap_none {cols : List Decl} {s : List UInt8} (h : idx cols s = none) : mfind false [.s] (.str s) (cmap cols) 0 = some none := by
  obtain ⟨r, h1, h2⟩ := cmap_find cols s
  rw [h] at h2
  cases r with
  | none => exact h1
  | some q => simp at h2
theorem columns (t : Trace) (hl : Len t.cols.length) (h : List PObj) : callL L 225 [eTrace t] h = some (.map (some h.length), h ++ [.map (cmap t.cols)]) := by
  refine callL_wp rfl rfl ?_
  simp [f_compare_columns]
  refine loop_fold t.cols.length (fun i (x : PV × PV × PV × Nat) => ⟨[eTrace t, .loc 0 [.list false (t.cols.map eDecl), .list false (t.rows.map eRow)], .map none, .map (some h.length), x.1, x.2.1, x.2.2.1, .list false (t.cols.map eDecl), .int .i64 t.cols.length, .int .i64 i], [], x.2.2.2, h ++ [.map (cmapN t.cols i)]⟩) ?_ ?_ (.dead, .dead, .dead, 1)
  · intro i hi x ih
    have hw := wrap_succ i (by unfold Len at hl; omega)
    obtain ⟨r, h1, h2⟩ := cmapN_find t.cols t.cols[i].name i (by omega)
    cases hq : idx (t.cols.take i) t.cols[i].name with
    | none =>
      rw [hq] at h2
      have hr : r = none := by cases r <;> simp at h2 ⊢
      subst hr
      have hc : cmapN t.cols (i + 1) = cmapN t.cols i ++ [(.str t.cols[i].name, .int .i64 i)] := by simp only [cmapN, List.getElem?_eq_getElem hi, hq, if_true]
      rw [hc] at ih
      simp [hi, h1, hw]
      exact ih (_, _, _, _)
    | some k =>
      rw [hq] at h2
      have hr : ∃ q, r = some q := by cases r <;> simp at h2 ⊢
      obtain ⟨⟨p, v⟩, rfl⟩ := hr
      simp at h2
      subst h2
      have hc : cmapN t.cols (i + 1) = cmapN t.cols i := by simp only [cmapN, List.getElem?_eq_getElem hi, hq]; simp
      rw [hc] at ih
      simp [hi, h1, hw]
      exact ih (_, _, _, _)
  · intro x
    simp [cmap]
def commonN (a b : Trace) : Nat → List (List UInt8)
  | 0 => []
  | i + 1 => match a.cols[i]? with
    | some c => if (idx b.cols c.name).isSome = true ∧ ¬ c.name ∈ commonN a b i then commonN a b i ++ [c.name] else commonN a b i
    | none => commonN a b i
def common (a b : Trace) : List (List UInt8) := commonN a b a.cols.length
theorem commonN_len (a b : Trace) : ∀ i, (commonN a b i).length ≤ i
  | 0 => by simp [commonN]
  | i + 1 => by
    have := commonN_len a b i
    unfold commonN
    split
    · split
      · simp; omega
      · omega
    · omega
theorem commonN_mem (a b : Trace) : ∀ i, i ≤ a.cols.length → ∀ s, s ∈ commonN a b i ↔ (idx (a.cols.take i) s).isSome = true ∧ (idx b.cols s).isSome = true
  | 0, _, s => by simp [commonN, idx]
  | i + 1, h, s => by
    have hi : i < a.cols.length := by omega
    have ih := commonN_mem a b i (by omega)
    rw [take_succ' hi, idx_snoc]
    simp only [commonN, List.getElem?_eq_getElem hi]
    by_cases e : a.cols[i].name = s
    · subst e
      by_cases h1 : (idx b.cols a.cols[i].name).isSome = true
      · by_cases h2 : a.cols[i].name ∈ commonN a b i
        · simp only [h1, h2, not_true_eq_false, and_false, if_false]
          have := (ih _).1 h2
          simp only [h2, true_iff, and_true]
          cases hq : idx (a.cols.take i) a.cols[i].name with
          | none => simp
          | some k => simp
        · simp only [h1, h2, not_false_eq_true, and_self, if_true]
          simp
          cases hq : idx (a.cols.take i) a.cols[i].name with
          | none => simp
          | some k => simp
      · have : ¬ a.cols[i].name ∈ commonN a b i := fun hm => h1 ((ih _).1 hm).2
        simp [h1, this]
    · have e' : ∀ x, (x = s) = False ∨ True := fun _ => .inr trivial
      have hmem : (s ∈ (if (idx b.cols a.cols[i].name).isSome = true ∧ ¬ a.cols[i].name ∈ commonN a b i then commonN a b i ++ [a.cols[i].name] else commonN a b i)) ↔ s ∈ commonN a b i := by
        split
        · simp only [List.mem_append, List.mem_singleton]
          constructor
          · rintro (h | h)
            · exact h
            · exact absurd h.symm e
          · exact .inl
        · exact Iff.rfl
      rw [hmem, ih]
      cases hq : idx (a.cols.take i) s <;> simp [e]
theorem pCommon (a b : Trace) (ha : a.cols.length ≤ 2147483647) (hb : Len b.cols.length) (h : List PObj) : callL L 209 [eTrace a, eTrace b] h = some (.list false ((common a b).map .str), h ++ [.map (cmap b.cols)]) := by
  have hc := columns b hb h
  refine callL_wp rfl rfl ?_
  simp [f_compare_Common, hc]
  refine loop_fold a.cols.length (fun i (x : PV × PV × Nat) => ⟨[eTrace a, eTrace b, .loc 0 [.list false (a.cols.map eDecl), .list false (a.rows.map eRow)], .loc 1 [.list false (b.cols.map eDecl), .list false (b.rows.map eRow)], .list true [], .map (some h.length), .list true ((commonN a b i).map .str), x.1, x.2.1, .list false (a.cols.map eDecl), .int .i64 a.cols.length, .int .i64 i], [], x.2.2, h ++ [.map (cmap b.cols)]⟩) ?_ ?_ (.dead, .dead, 2)
  · intro i hi x ih
    have hw := wrap_succ i (by omega)
    have hlen := commonN_len a b i
    have hct := contains (commonN a b i) a.cols[i].name false (by unfold Len; omega) []
    have hl2 : (commonN a b i).length + 1 ≤ 2147483648 := by omega
    cases hq : idx b.cols a.cols[i].name with
    | none =>
      have h1 := cmap_none hq
      have hc : commonN a b (i + 1) = commonN a b i := by simp [commonN, List.getElem?_eq_getElem hi, hq]
      rw [hc] at ih
      simp [hi, h1, hw]
      exact ih (_, _, _)
    | some k =>
      obtain ⟨p, h1⟩ := cmap_some hq
      by_cases hm : a.cols[i].name ∈ commonN a b i
      · have hc : commonN a b (i + 1) = commonN a b i := by simp [commonN, List.getElem?_eq_getElem hi, hq, hm]
        rw [hc] at ih
        simp [hi, h1, hw, hct, hm]
        exact ih (_, _, _)
      · have hc : commonN a b (i + 1) = commonN a b i ++ [a.cols[i].name] := by simp [commonN, List.getElem?_eq_getElem hi, hq, hm]
        rw [hc] at ih
        simp [hi, h1, hw, hct, hm, hl2]
        simp at ih
        exact ih _ _ _
  · intro x
    simp [common]
end PI.Ct
set_option maxRecDepth 100000
set_option linter.unusedSimpArgs false
set_option linter.unusedVariables false
namespace PI.Ct
open Go (IntKind BinOp UnOp)
open Tr
def cellAt (t : Trace) (r : Nat) (s : List UInt8) : Cell := (t.rows.getD r []).getD ((idx t.cols s).getD 0) zeroCell
def differs (a b : Trace) (r : Nat) (s : List UInt8) : Bool := decide (¬ cellAt a r s = cellAt b r s)
def rowDiff (a b : Trace) (r : Nat) : Option (List UInt8) := (common a b).find? (differs a b r)
def firstRow (a b : Trace) (n : Nat) : Option (Nat × List UInt8) := (List.range n).findSome? (fun r => (rowDiff a b r).map fun s => (r, s))
def first (a b : Trace) : Option (Nat × List UInt8) :=
  match common a b with
  | [] => none
  | s :: _ => match firstRow a b (min a.rows.length b.rows.length) with
    | some x => some x
    | none => if a.rows.length = b.rows.length then none else some (min a.rows.length b.rows.length, s)
theorem find_at {α : Type} {l : List α} {p : α → Bool} {i : Nat} (hi : i < l.length) (h : p l[i] = true) (hk : ∀ k (hk : k < i), p (l[k]'(by omega)) = false) : l.find? p = some l[i] := by
  rw [List.find?_eq_some_iff_getElem]
  exact ⟨h, i, hi, rfl, fun j hj => by simpa using hk j hj⟩
theorem find_no {α : Type} {l : List α} {p : α → Bool} (hk : ∀ k (hk : k < l.length), p l[k] = false) : l.find? p = none := by
  rw [List.find?_eq_none]
  intro x hx
  obtain ⟨k, hk', rfl⟩ := List.mem_iff_getElem.1 hx
  simpa using hk k hk'
theorem firstRow_some {a b : Trace} {n r : Nat} {s : List UInt8} (hr : r < n) (h : rowDiff a b r = some s) (hk : ∀ k, k < r → rowDiff a b k = none) : firstRow a b n = some (r, s) := by
  unfold firstRow
  have : ∀ m, (∀ k, k < m → rowDiff a b k = none) → (List.range m).findSome? (fun r => (rowDiff a b r).map fun s => (r, s)) = none := by
    intro m hm
    rw [List.findSome?_eq_none_iff]
    intro x hx
    rw [hm x (by simpa using hx)]; rfl
  have e : List.range n = List.range r ++ List.range' r (n - r) := by
    rw [List.range_eq_range', List.range_eq_range', show n = r + (n - r) by omega, ← List.range'_append_1]; simp
  rw [e, List.findSome?_append, this r hk]
  obtain ⟨m, hm⟩ : ∃ m, n - r = m + 1 := ⟨n - r - 1, by omega⟩
  rw [hm, List.range'_succ]
  simp [h]
theorem firstRow_none {a b : Trace} {n : Nat} (hk : ∀ k, k < n → rowDiff a b k = none) : firstRow a b n = none := by
  unfold firstRow
  rw [List.findSome?_eq_none_iff]
  intro x hx
  rw [hk x (by simpa using hx)]; rfl
theorem common_idx {a b : Trace} {s : List UInt8} (h : s ∈ common a b) : (∃ k, idx a.cols s = some k) ∧ ∃ k, idx b.cols s = some k := by
  have := (commonN_mem a b a.cols.length (Nat.le_refl _) s).1 h
  rw [List.take_length] at this
  exact ⟨Option.isSome_iff_exists.1 this.1, Option.isSome_iff_exists.1 this.2⟩
abbrev eNames (l : List (List UInt8)) : PV := .list false (l.map .str)
theorem pFirst_row (a b : Trace) (r n : Nat) (hr : r < a.rows.length) (hr' : r < b.rows.length) (hl : Len (common a b).length) (ra : ∀ r ∈ a.rows, Len r.length) (rb : ∀ r ∈ b.rows, Len r.length) (h : List PObj) {Q : PExit → St → Prop} (x : PV)
    (h1 : rowDiff a b r = none → ∀ x, Q (.exit 2) ⟨[eTrace a, eTrace b, .loc 0 [.list false (a.cols.map eDecl), .list false (a.rows.map eRow)], .loc 1 [.list false (b.cols.map eDecl), .list false (b.rows.map eRow)], .int .i64 0, .str [], .bool false, eNames (common a b), .map (some h.length), .map (some (h.length + 1)),
      .int .i64 n, .int .i64 r, x, .int .i64 n, .int .i64 r, eNames (common a b), .int .i64 (common a b).length, .int .i64 (common a b).length], [], 2, h ++ [.map (cmap a.cols), .map (cmap b.cols)]⟩)
    (h2 : ∀ s, rowDiff a b r = some s → ∀ x i, Q .ret ⟨[eTrace a, eTrace b, .loc 0 [.list false (a.cols.map eDecl), .list false (a.rows.map eRow)], .loc 1 [.list false (b.cols.map eDecl), .list false (b.rows.map eRow)], .int .i64 r, .str s, .bool true, eNames (common a b), .map (some h.length), .map (some (h.length + 1)),
      .int .i64 n, .int .i64 r, x, .int .i64 n, .int .i64 r, eNames (common a b), .int .i64 (common a b).length, i], [], 2, h ++ [.map (cmap a.cols), .map (cmap b.cols)]⟩) :
    wpL L f_compare_First_l0 ⟨[eTrace a, eTrace b, .loc 0 [.list false (a.cols.map eDecl), .list false (a.rows.map eRow)], .loc 1 [.list false (b.cols.map eDecl), .list false (b.rows.map eRow)], .int .i64 0, .str [], .bool false, eNames (common a b), .map (some h.length), .map (some (h.length + 1)),
      .int .i64 n, .int .i64 r, x, .int .i64 n, .int .i64 r, eNames (common a b), .int .i64 (common a b).length, .int .i64 0], [], 2, h ++ [.map (cmap a.cols), .map (cmap b.cols)]⟩ Q := by
  rw [f_compare_First_l0]
  refine loop_all (common a b).length (fun i => match (common a b)[i]? with | some s => !differs a b r s | none => true) (fun i (x : PV) => ⟨[eTrace a, eTrace b, .loc 0 [.list false (a.cols.map eDecl), .list false (a.rows.map eRow)], .loc 1 [.list false (b.cols.map eDecl), .list false (b.rows.map eRow)], .int .i64 0, .str [], .bool false, eNames (common a b), .map (some h.length), .map (some (h.length + 1)),
      .int .i64 n, .int .i64 r, x, .int .i64 n, .int .i64 r, eNames (common a b), .int .i64 (common a b).length, .int .i64 i], [], 2, h ++ [.map (cmap a.cols), .map (cmap b.cols)]⟩) ?_ ?_ ?_ x
  · intro i hi hok x ih
    have hw := wrap_succ i (by unfold Len at hl; omega)
    obtain ⟨⟨ka, ea⟩, ⟨kb, eb⟩⟩ := common_idx (List.getElem_mem hi)
    obtain ⟨pa, fa⟩ := cmap_some ea
    obtain ⟨pb, fb⟩ := cmap_some eb
    have ca := cell a.rows[r] ka false (ra _ (List.getElem_mem hr)) []
    have cb := cell b.rows[r] kb false (rb _ (List.getElem_mem hr')) []
    simp only [List.getElem?_eq_getElem hi, Bool.not_eq_true'] at hok
    have hd : (a.rows[r]).getD ka zeroCell = (b.rows[r]).getD kb zeroCell := by
      simpa [differs, cellAt, ea, eb, List.getD_eq_getElem?_getD, hr, hr'] using hok
    rw [hd] at ca
    simp [hi, hr, hr', eRow, fa, fb, ca, cb, hw]
    simp at ih
    exact ih _
  · intro i hi hok hk x
    obtain ⟨⟨ka, ea⟩, ⟨kb, eb⟩⟩ := common_idx (List.getElem_mem hi)
    obtain ⟨pa, fa⟩ := cmap_some ea
    obtain ⟨pb, fb⟩ := cmap_some eb
    have ca := cell a.rows[r] ka false (ra _ (List.getElem_mem hr)) []
    have cb := cell b.rows[r] kb false (rb _ (List.getElem_mem hr')) []
    simp only [List.getElem?_eq_getElem hi, Bool.not_eq_false'] at hok
    have hd : ¬ (a.rows[r]).getD ka zeroCell = (b.rows[r]).getD kb zeroCell := by
      simpa [differs, cellAt, ea, eb, List.getD_eq_getElem?_getD, hr, hr'] using hok
    rw [List.getD_eq_getElem?_getD, List.getD_eq_getElem?_getD] at hd
    have hrd : rowDiff a b r = some (common a b)[i] := find_at hi hok (fun k hk' => by
      have hk2 : k < (common a b).length := by omega
      have := hk k hk'
      simpa [hk2] using this)
    have h2' := h2 _ hrd
    simp [hi, hr, hr', eRow, fa, fb, ca, cb, hd]
    exact h2' _ _
  · intro hok x
    have hrd : rowDiff a b r = none := find_no (fun k hk => by have := hok k hk; simpa [hk] using this)
    have h1' := h1 hrd
    simp
    exact h1' _
theorem common_len (a b : Trace) : (common a b).length ≤ a.cols.length := commonN_len a b a.cols.length
def eFirst : Option (Nat × List UInt8) → PV
  | some (r, s) => .tuple [.int .i64 r, .str s, .bool true]
  | none => .tuple [.int .i64 0, .str [], .bool false]
theorem pFirst (a b : Trace) (ha : a.cols.length ≤ 2147483647) (hb : Len b.cols.length) (la : Len a.rows.length) (lb : Len b.rows.length) (ra : ∀ r ∈ a.rows, Len r.length) (rb : ∀ r ∈ b.rows, Len r.length) (h : List PObj) :
    ∃ h', callL L 211 [eTrace a, eTrace b] h = some (eFirst (first a b), h') := by
  have hcom := pCommon a b ha hb []
  have hlen := common_len a b
  have hl : Len (common a b).length := by unfold Len; omega
  cases hc : common a b with
  | nil =>
    rw [hc] at hcom
    refine ⟨h, callL_wp rfl rfl ?_⟩
    simp [f_compare_First, hcom, first, hc, eFirst]
  | cons s0 rest =>
    have hca := columns a (by unfold Len; omega) h
    have hcb := columns b hb (h ++ [.map (cmap a.cols)])
    have hne : ¬ ((common a b).length : Int) = 0 := by rw [hc]; simp; omega
    refine ⟨h ++ [.map (cmap a.cols), .map (cmap b.cols)], callL_wp rfl rfl ?_⟩
    have hmin : min a.rows.length b.rows.length ≤ 9223372036854775807 := by unfold Len at la; omega
    have hm : (if b.rows.length < a.rows.length then (b.rows.length : Int) else (a.rows.length : Int)) = ((min a.rows.length b.rows.length : Nat) : Int) := by
      split <;> omega
    have hnil : ¬ common a b = [] := by rw [hc]; simp
    have hhead : ∀ h0 : 0 < (common a b).length, (common a b)[0] = s0 := by rw [hc]; intro _; rfl
    have hpos : 0 < (common a b).length := by rw [hc]; simp
    generalize hn : min a.rows.length b.rows.length = n at hmin hm
    simp only [List.length_append, List.length_singleton] at hcb
    simp [f_compare_First, hcom, hne, hca, hcb, hm, hnil]
    refine loop_all n (fun r => (rowDiff a b r).isNone) (fun r (x : PV × PV × PV × PV × PV) => ⟨[eTrace a, eTrace b, .loc 0 [.list false (a.cols.map eDecl), .list false (a.rows.map eRow)], .loc 1 [.list false (b.cols.map eDecl), .list false (b.rows.map eRow)], .int .i64 0, .str [], .bool false, eNames (common a b), .map (some h.length), .map (some (h.length + 1)),
      .int .i64 n, x.1, x.2.1, .int .i64 n, .int .i64 r, x.2.2.1, x.2.2.2.1, x.2.2.2.2], [], 2, h ++ [.map (cmap a.cols), .map (cmap b.cols)]⟩) ?_ ?_ ?_ (.dead, .dead, .dead, .dead, .dead)
    · intro r hr hok x ih
      have hw := wrap_succ r (by omega)
      simp [hr]
      refine pFirst_row a b r n (by omega) (by omega) hl ra rb h _ ?_ ?_
      · intro _ y
        simp [hw]
        exact ih (_, _, _, _, _)
      · intro s hs
        rw [hs] at hok
        simp at hok
    · intro r hr hok hk x
      simp [hr]
      refine pFirst_row a b r n (by omega) (by omega) hl ra rb h _ ?_ ?_
      · intro hs
        rw [hs] at hok
        simp at hok
      · intro s hs y i
        have hf : first a b = some (r, s) := by
          have := firstRow_some (n := min a.rows.length b.rows.length) (by omega) hs (fun k hk' => by have := hk k hk'; simpa using this)
          simp only [first, hc, this]
        simp [hf, eFirst]
    · intro hok x
      have hfr : firstRow a b n = none := firstRow_none (fun k hk => by have := hok k (by omega); simpa using this)
      by_cases hlen2 : a.rows.length = b.rows.length
      · have hf : first a b = none := by simp only [first, hc, hn, hfr, if_pos hlen2]
        simp [hlen2, hf, eFirst]
      · have hf : first a b = some (n, s0) := by simp only [first, hc, hn, hfr, if_neg hlen2]
        have hlen3 : ¬ (a.rows.length : Int) = b.rows.length := by omega
        simp [hlen3, hf, eFirst, hpos, hhead]
end PI.Ct
set_option maxRecDepth 100000
set_option linter.unusedSimpArgs false
set_option linter.unusedVariables false
namespace PI.Ct
open Go (IntKind BinOp UnOp)
open Tr
def noTrace : Trace := ⟨[], []⟩
theorem no_trace : PV.agg [.list false [], .list false []] = eTrace noTrace := rfl
def append (a b : Trace) : Trace × Nat :=
  if ¬ a.cols = b.cols then (noTrace, 16) else if 4096 < a.rows.length + b.rows.length then (noTrace, 3) else (⟨a.cols, a.rows ++ b.rows⟩, 0)
def eErr (x : Trace × Nat) : PV := .tuple [eTrace x.1, .int .i64 x.2]
theorem map_snoc {α β : Type} (f : α → β) (l : List α) (i : Nat) (h : i < l.length) : (l.map f).take (i + 1) = (l.map f).take i ++ [f l[i]] := by
  rw [List.take_succ_eq_append_getElem (by simpa using h)]; simp
@[simp] theorem cells_agg (cs : List PV) : (PV.agg cs).cells = cs := rfl
@[simp] theorem head_take (s n : Nat) (l : List PV) (h : headOk s l = true) : headOk s (l.take n) = true := by
  cases n with
  | zero => rfl
  | succ n => cases l <;> simp_all
@[simp] theorem head_append (s : Nat) (l k : List PV) (h : headOk s l = true) (h' : headOk s k = true) : headOk s (l ++ k) = true := by
  cases l <;> simp_all
@[simp] theorem head_rows {α : Type} (f : α → Row) (l : List α) : headOk 1 (l.map fun x => eRow (f x)) = true := by cases l <;> simp
theorem column_run (name : List UInt8) (l : List Int) (o : Bool) (hl : l.length ≤ 2147483647) (h : List PObj) :
    callL L 221 [.str name, .list o (l.map (PV.int .i64))] h = some (eTrace ⟨[⟨name, 2, []⟩], l.map fun n => [⟨1, n⟩]⟩, h) := by
  refine callL_wp rfl rfl ?_
  have hd : PV.agg [.str name, .int .i64 2, .list false []] = eDecl ⟨name, 2, []⟩ := rfl
  have hr : ∀ n, PV.list false [eCell ⟨1, n⟩] = eRow [⟨1, n⟩] := fun _ => rfl
  have hc : ∀ n, PV.agg [.int .i64 1, .int .i64 n] = eCell ⟨1, n⟩ := fun _ => rfl
  simp [f_law44_column, setParts, hd]
  refine loop_fold l.length (fun i (x : PV) => ⟨[.str name, .list false (l.map (PV.int .i64)), .loc 0 [.list true [], .list true []], .loc 1 [.list false [eDecl ⟨name, 2, []⟩], .list true ((l.map fun n => eRow [⟨1, n⟩]).take i)], .int .i64 i], [], 2, h⟩) ?_ ?_ (.dead)
  · intro i hi x ih
    have hw := wrap_succ i (by omega)
    have hi2 : i + 1 ≤ 2147483648 := by omega
    rw [map_snoc _ _ _ hi] at ih
    have hm : min i l.length = i := by omega
    simp [hi, hw, setParts, hm, hi2, hc, hr]
    simp at ih
    exact ih
  · intro x
    have ht : (l.map fun n => eRow [⟨1, n⟩]).take l.length = l.map fun n => eRow [⟨1, n⟩] := List.take_of_length_le (by simp)
    simp [ht, eTrace]
theorem rows_run (V0 V1 V2 V3 V4 V5 V7 V8 V10 V11 V12 V13 V14 : PV) (V9' : PV) (c : PV) (done l : List Row) (g : Nat) (h : List PObj) (hl : done.length + l.length ≤ 4096) (rs : ∀ r ∈ l, r.length ≤ 2147483648) (Q : PExit → St → Prop)
    (hq : ∀ x, Q .normal ⟨[V0, V1, V2, V3, V4, V5, .loc 3 [c, .list true ((done ++ l).map eRow)], V7, V8, x, V10, V11, V12, V13, V14, .list false (l.map eRow), .int .i64 l.length, .int .i64 l.length], [], g, h⟩) :
    wpL L f_compare_Append_l1 ⟨[V0, V1, V2, V3, V4, V5, .loc 3 [c, .list true (done.map eRow)], V7, V8, V9', V10, V11, V12, V13, V14, .list false (l.map eRow), .int .i64 l.length, .int .i64 0], [], g, h⟩ (blockK 5 Q) := by
  rw [show PV.list true (done.map eRow) = PV.list true (done.map eRow ++ (l.map eRow).take 0) by simp]
  rw [f_compare_Append_l1]
  refine loop_fold l.length (fun i (x : PV) => ⟨[V0, V1, V2, V3, V4, V5, .loc 3 [c, .list true (done.map eRow ++ (l.map eRow).take i)], V7, V8, x, V10, V11, V12, V13, V14, .list false (l.map eRow), .int .i64 l.length, .int .i64 i], [], g, h⟩) ?_ ?_ V9'
  · intro i hi x ih
    have hw := wrap_succ i (by omega)
    have hm : min i l.length = i := by omega
    have hi2 : done.length + i + 1 ≤ 2147483648 := by omega
    have hc := cloneCell l[i] false (rs _ (List.getElem_mem hi)) []
    rw [map_snoc _ _ _ hi, ← List.append_assoc] at ih
    have hr : PV.list false (l[i].map eCell) = eRow l[i] := rfl
    have hr' : eRow l[i] = PV.list false (l[i].map eCell) := rfl
    simp [hi, hw, hr', hc, hm, hi2]
    simp [hr] at ih ⊢
    exact ih _
  · intro x
    have ht : (l.map eRow).take l.length = l.map eRow := List.take_of_length_le (by simp)
    simp [ht]
    simpa using hq x
theorem pAppend (a b : Trace) (ha : TraceOk a) (hb : TraceOk b) (hab : a.rows.length + b.rows.length ≤ 9223372036854775807) (hac : a.cols.length ≤ 2147483647) (has : ∀ d ∈ a.cols, d.clock.length * 32 ≤ 140737488351232) (har : ∀ r ∈ a.rows, r.length ≤ 2147483648) (hbr : ∀ r ∈ b.rows, r.length ≤ 2147483648) (h : List PObj) :
    callL L 215 [eTrace a, eTrace b] h = some (eErr (append a b), h) := by
  have h1 := same a.cols b.cols false false ha.c hb.c ha.cs hb.cs []
  have hw : IntKind.i64.wrap ((a.rows.length : Int) + b.rows.length) = ((a.rows.length + b.rows.length : Nat) : Int) := by
    have := ha.r; have := hb.r; unfold Len at *
    rw [wrap_i64 _ (by omega) (by omega)]; omega
  refine callL_wp rfl rfl ?_
  unfold append
  by_cases e : a.cols = b.cols
  · rw [← e] at h1
    by_cases e2 : 4096 < a.rows.length + b.rows.length
    · have e3 : (4096 : Int) < ((a.rows.length + b.rows.length : Nat) : Int) := by omega
      have e3' : (4096 : Int) < (a.rows.length : Int) + b.rows.length := by omega
      simp [f_compare_Append, h1, ← e, hw, e2, e3, e3', setParts, eErr, no_trace]
    · have e3 : ¬ (4096 : Int) < ((a.rows.length + b.rows.length : Nat) : Int) := by omega
      have e3' : ¬ (4096 : Int) < (a.rows.length : Int) + b.rows.length := by omega
      simp [f_compare_Append, h1, ← e, hw, e2, e3, e3', setParts, eErr, no_trace]
      refine loop_fold a.cols.length (fun i (x : PV × Nat) => ⟨[eTrace a, eTrace b, .loc 0 [.list false (a.cols.map eDecl), .list false (a.rows.map eRow)], .loc 1 [.list false (a.cols.map eDecl), .list false (b.rows.map eRow)], .loc 2 [.list true [], .list true []], .int .i64 0, .loc 3 [.list true ((a.cols.map eDecl).take i), .list true []], x.1, .dead, .dead, .list false (a.cols.map eDecl), .int .i64 a.cols.length, .int .i64 i, .dead, .dead, .dead, .dead, .dead], [], x.2, h⟩) ?_ ?_ (.dead, 4)
      · intro i hi x ih
        have hw := wrap_succ i (by omega)
        have hm : min i a.cols.length = i := by omega
        have hi2 : i + 1 ≤ 2147483648 := by omega
        have hc := copied a.cols[i] (has _ (List.getElem_mem hi)) []
        rw [map_snoc _ _ _ hi] at ih
        simp [hi, hw, hc, hm, hi2]
        simp at ih
        exact ih _ _
      · intro x
        have ht : (a.cols.map eDecl).take a.cols.length = a.cols.map eDecl := List.take_of_length_le (by simp)
        simp [ht, setParts]
        have w1 : IntKind.i64.wrap 1 = 1 := by decide
        have w2 : IntKind.i64.wrap 2 = 2 := by decide
        rw [f_compare_Append_l2, wpL_loop]
        simp
        refine rows_run _ _ _ _ _ _ _ _ _ _ _ _ _ _ _ [] a.rows _ h (by simp; omega) har _ ?_
        intro y
        simp [w1]
        rw [wpL_loop]
        simp
        refine rows_run _ _ _ _ _ _ _ _ _ _ _ _ _ _ _ a.rows b.rows _ h (by omega) hbr _ ?_
        intro y
        simp [w2]
        rw [wpL_loop]
        simp [eErr]
        simp [eTrace]
  · simp [f_compare_Append, h1, e, setParts, eErr, no_trace]
end PI.Ct
set_option maxRecDepth 100000
set_option linter.unusedSimpArgs false
set_option linter.unusedVariables false
namespace PI.Ct
open Go (IntKind BinOp UnOp)
open Tr
def colAt (t : Trace) (s : List UInt8) : Decl := (t.cols[(idx t.cols s).getD 0]?).getD default
def projRow (t : Trace) (names : List (List UInt8)) (r : Row) : Row := names.map fun s => (r[(idx t.cols s).getD 0]?).getD zeroCell
def proj (t : Trace) (names : List (List UInt8)) : Trace := ⟨names.map (colAt t), t.rows.map (projRow t names)⟩
def known (t : Trace) (s : List UInt8) : Bool := (idx t.cols s).isSome
def project (t : Trace) (names : List (List UInt8)) : Trace × Nat := if names.all (known t) = true then (proj t names, 0) else (noTrace, 6)
@[simp] theorem head_cells {α : Type} (f : α → Cell) (l : List α) : headOk 2 (l.map fun x => eCell (f x)) = true := by cases l <;> simp
@[simp] theorem head_decls {α : Type} (f : α → Decl) (l : List α) : headOk 3 (l.map fun x => eDecl (f x)) = true := by cases l <;> simp
end PI.Ct
set_option maxRecDepth 100000
set_option linter.unusedSimpArgs false
set_option linter.unusedVariables false
namespace PI.Ct
open Go (IntKind BinOp UnOp)
open Tr
theorem pProjRow (t : Trace) (names : List (List UInt8)) (r : Row) (hrl : Len r.length) (hk : ∀ s ∈ names, known t s = true) (hl : names.length ≤ 2147483647) (V0 V1 V2 V3 V4 V6 V7 V8 V9 V12 V13 V14 V15 V16 V17 V18 : PV) (g : Nat) (h : List PObj) (Q : PExit → St → Prop)
    (hq : ∀ x y, Q .normal ⟨[V0, V1, V2, V3, V4, .map (some h.length), V6, V7, V8, V9, eRow r, .list true ((projRow t names r).map eCell), x, V13, V14, V15, V16, V17, V18, eNames names, .int .i64 names.length, y], [], g, h ++ [.map (cmap t.cols)]⟩) :
    wpL L f_compare_Project_l1 ⟨[V0, V1, V2, V3, V4, .map (some h.length), V6, V7, V8, V9, eRow r, .list true [], V12, V13, V14, V15, V16, V17, V18, eNames names, .int .i64 names.length, .int .i64 0], [], g, h ++ [.map (cmap t.cols)]⟩ (blockK 4 Q) := by
  rw [f_compare_Project_l1]
  refine loop_fold names.length (fun i (x : PV) => ⟨[V0, V1, V2, V3, V4, .map (some h.length), V6, V7, V8, V9, eRow r, .list true ((names.map fun s => eCell ((r[(idx t.cols s).getD 0]?).getD zeroCell)).take i), x, V13, V14, V15, V16, V17, V18, eNames names, .int .i64 names.length, .int .i64 i], [], g, h ++ [.map (cmap t.cols)]⟩) ?_ ?_ V12
  · intro i hi x ih
    have hw := wrap_succ i (by omega)
    have hm : min i names.length = i := by omega
    have hi2 : i + 1 ≤ 2147483648 := by omega
    obtain ⟨k, ek⟩ := Option.isSome_iff_exists.1 (hk names[i] (List.getElem_mem hi))
    obtain ⟨p, h1⟩ := cmap_some ek
    have cr := cell r k false hrl []
    rw [map_snoc _ _ _ hi] at ih
    simp [hi, hw, hm, hi2, h1, eRow, cr]
    simp [ek, List.getD_eq_getElem?_getD, eRow] at ih ⊢
    exact ih _
  · intro x
    have ht : (names.map fun s => eCell ((r[(idx t.cols s).getD 0]?).getD zeroCell)).take names.length = names.map fun s => eCell ((r[(idx t.cols s).getD 0]?).getD zeroCell) := List.take_of_length_le (by simp)
    simp [ht]
    simpa [projRow, Function.comp_def] using hq x (.int .i64 names.length)
theorem pProject (t : Trace) (names : List (List UInt8)) (o : Bool) (hl : names.length ≤ 2147483647) (hc : Len t.cols.length) (hcl : ∀ d ∈ t.cols, d.clock.length * 32 ≤ 140737488351232) (hrw : t.rows.length ≤ 2147483647) (hrl : ∀ r ∈ t.rows, Len r.length) (h : List PObj) :
    callL L 213 [eTrace t, .list o (names.map .str)] h = some (eErr (project t names), h ++ [.map (cmap t.cols)]) := by
  have hcm := columns t hc h
  refine callL_wp rfl rfl ?_
  simp [f_compare_Project, setParts, hcm]
  refine loop_all names.length (fun i => match names[i]? with | some s => known t s | none => true) (fun i (x : PV × PV × PV) => ⟨[eTrace t, eNames names, .loc 0 [.list false (t.cols.map eDecl), .list false (t.rows.map eRow)], .loc 1 [.list true [], .list true []], .int .i64 0, .map (some h.length), .loc 2 [.list true ((names.map fun s => eDecl (colAt t s)).take i), .list true []], x.1, x.2.1, x.2.2, .dead, .dead, .dead, eNames names, .int .i64 names.length, .int .i64 i, .dead, .dead, .dead, .dead, .dead, .dead], [], 3, h ++ [.map (cmap t.cols)]⟩) ?_ ?_ ?_ (.dead, .dead, .dead)
  · intro i hi hok x ih
    have hw := wrap_succ i (by omega)
    have hm : min i names.length = i := by omega
    have hi2 : i + 1 ≤ 2147483648 := by omega
    simp only [List.getElem?_eq_getElem hi] at hok
    obtain ⟨k, ek⟩ := Option.isSome_iff_exists.1 hok
    obtain ⟨hk, _⟩ := idx_lt ek
    obtain ⟨p, h1⟩ := cmap_some ek
    have cc := copied t.cols[k] (hcl _ (List.getElem_mem hk)) []
    rw [map_snoc _ _ _ hi] at ih
    simp [hi, h1, hw, hm, hi2, hk, cc]
    simp [colAt, ek, hk] at ih
    exact ih _ _ _
  · intro i hi hok hk x
    simp only [List.getElem?_eq_getElem hi] at hok
    have ek : idx t.cols names[i] = none := by simpa [known] using hok
    have h1 := cmap_none ek
    have hnot : ¬ names.all (known t) = true := by
      rw [List.all_eq_true]
      intro hall
      rw [hall _ (List.getElem_mem hi)] at hok
      cases hok
    rw [project, if_neg hnot]
    simp [hi, h1, setParts, eErr, no_trace]
  · intro hok x
    have hkn : ∀ s ∈ names, known t s = true := by
      intro s hs
      obtain ⟨i, hi, rfl⟩ := List.mem_iff_getElem.1 hs
      have := hok i hi
      simpa [hi] using this
    have ht : (names.map fun s => eDecl (colAt t s)).take names.length = names.map fun s => eDecl (colAt t s) := List.take_of_length_le (by simp)
    have hall : names.all (known t) = true := List.all_eq_true.2 hkn
    rw [project, if_pos hall]
    simp [ht]
    refine loop_fold t.rows.length (fun i (y : PV × PV × PV × PV × PV × PV) => ⟨[eTrace t, eNames names, .loc 0 [.list false (t.cols.map eDecl), .list false (t.rows.map eRow)], .loc 1 [.list true [], .list true []], .int .i64 0, .map (some h.length), .loc 2 [.list true (names.map fun s => eDecl (colAt t s)), .list true ((t.rows.map fun r => eRow (projRow t names r)).take i)], x.1, x.2.1, x.2.2, y.1, y.2.1, y.2.2.1, eNames names, .int .i64 names.length, .int .i64 names.length, .list false (t.rows.map eRow), .int .i64 t.rows.length, .int .i64 i, y.2.2.2.1, y.2.2.2.2.1, y.2.2.2.2.2], [], 3, h ++ [.map (cmap t.cols)]⟩) ?_ ?_ (.dead, .dead, .dead, .dead, .dead, .dead)
    · intro i hi x ih
      have hw := wrap_succ i (by omega)
      have hm : min i t.rows.length = i := by omega
      have hi2 : i + 1 ≤ 2147483648 := by omega
      rw [map_snoc _ _ _ hi] at ih
      have hr : PV.list false ((projRow t names t.rows[i]).map eCell) = eRow (projRow t names t.rows[i]) := rfl
      simp [hi]
      refine pProjRow t names t.rows[i] (hrl _ (List.getElem_mem hi)) hkn hl _ _ _ _ _ _ _ _ _ _ _ _ _ _ _ _ _ h _ ?_
      intro y z
      simp [hm, hi2, hw, hr]
      simp at ih
      exact ih _ _ _ _ _ _
    · intro y
      have hrt : (t.rows.map fun r => eRow (projRow t names r)).take t.rows.length = t.rows.map fun r => eRow (projRow t names r) := List.take_of_length_le (by simp)
      simp [hrt, eErr]
      simp [eTrace, proj]
end PI.Ct
set_option maxRecDepth 100000
set_option linter.unusedSimpArgs false
set_option linter.unusedVariables false
namespace PI.Ct
open Go (IntKind BinOp UnOp)
open Tr
theorem loop_any {L : Nat → Option PFunc} {Q : PExit → St → Prop} {γ : Type} {c : PC} (n : Nat) (S : Nat → γ → St)
    (step : ∀ i, i ≤ n → ∀ x, (i < n → ∀ y, wpL L (.loop c) (S (i + 1) y) Q) → wpL L c (S i x) (loopK L c Q)) (x : γ) : wpL L (.loop c) (S 0 x) Q := by
  have key : ∀ (d i : Nat), i + d = n → ∀ x, wpL L (.loop c) (S i x) Q := by
    intro d
    induction d with
    | zero => intro i hi x; rw [wpL_loop]; exact step i (by omega) x (fun h => by omega)
    | succ d ih => intro i hi x; rw [wpL_loop]; exact step i (by omega) x (fun _ => ih (i + 1) (by omega))
  exact key n 0 (by omega) x
section
variable {V l : List PV} {g : Nat} {h : List PObj}
@[simp] theorem endP_normal (rs : List PRes) (P : PV × List PObj → Prop) : endP rs P .normal ⟨V, l, g, h⟩ = ∃ v, resultV ⟨V, l, g, h⟩ rs = some v ∧ P (v, shutRes V rs h) := by simp [endP]
@[simp] theorem endP_ret (rs : List PRes) (P : PV × List PObj → Prop) : endP rs P .ret ⟨V, l, g, h⟩ = ∃ v, resultV ⟨V, l, g, h⟩ rs = some v ∧ P (v, shutRes V rs h) := by simp [endP]
end
theorem some_int {k : Nat} {args : List PV} {h : List PObj} {R : Int → Prop} (H : ∃ r, callL L k args h = some r ∧ ∃ n : Int, r = (.int .i64 n, h) ∧ R n) : ∃ n : Int, callL L k args h = some (.int .i64 n, h) ∧ R n := by
  obtain ⟨_, h1, n, rfl, h2⟩ := H; exact ⟨n, h1, h2⟩
def Mid (n : Int) : Prop := 0 ≤ n ∧ n ≤ 200000000000000000
theorem weighDecls (l : List Decl) (o : Bool) (hl : l.length * 48 ≤ 140737488351232) (hc : ∀ d ∈ l, d.clock.length * 32 ≤ 140737488351232) (hn : ∀ d ∈ l, d.name.length ≤ 9223372036854775807) (h : List PObj) : ∃ n : Int, callL L 234 [.list o (l.map eDecl), .int .i64 600] h = some (.int .i64 n, h) ∧ Mid n := by
  refine some_int (callL_wpP rfl rfl ?_)
  simp [f_ref10_weighDecls]
  refine loop_any l.length (fun i (x : {x : Int // Mid x}) => ⟨[.list false (l.map eDecl), .int .i64 600, .int .i64 0, .int .i64 x.1, .int .i64 i], [], 0, h⟩) ?_ ⟨(l.length : Int), by unfold Mid; omega⟩
  intro i hi x ih
  obtain ⟨x, hx⟩ := x
  by_cases h1 : i < l.length
  · have h1' : (i : Int) < l.length := by omega
    have hw := wrap_succ i (by omega)
    by_cases h2 : x < 600
    · have ih := ih h1
      have hci := hc _ (List.getElem_mem h1)
      have hni := hn _ (List.getElem_mem h1)
      have w1 := wrap_i64 (x + (l[i].clock.length : Int)) (by unfold Mid at hx; omega) (by unfold Mid at hx; omega)
      have w2 := wrap_i64 ((l[i].name.length : Int) / 100) (by omega) (by omega)
      have w3 := wrap_i64 (x + (l[i].clock.length : Int) + (l[i].name.length : Int) / 100) (by unfold Mid at hx; omega) (by unfold Mid at hx; omega)
      simp [h1, h1', h2, hw, w1, w2, w3]
      exact ih ⟨_, by unfold Mid at hx ⊢; omega⟩
    · simp [h1, h1', h2]
      exact hx
  · have h1' : ¬ (i : Int) < l.length := by omega
    simp [h1, h1']
    exact hx
theorem weighEqs0 (m : Int) (h : List PObj) : callL L 235 [.list false [], .int .i64 m] h = some (.int .i64 0, h) := by
  refine callL_wp rfl rfl ?_
  simp [f_ref10_weighEqs]
  rw [f_ref10_weighEqs_l0, wpL_loop]
  simp
theorem weighExprs0 (m : Int) (h : List PObj) : callL L 236 [.list false [], .int .i64 m] h = some (.int .i64 0, h) := by
  refine callL_wp rfl rfl ?_
  simp [f_ref10_weighExprs]
  rw [f_ref10_weighExprs_l0, wpL_loop]
  simp
theorem weighAutos0 (m : Int) (h : List PObj) : callL L 237 [.list false [], .int .i64 m] h = some (.int .i64 0, h) := by
  refine callL_wp rfl rfl ?_
  simp [f_ref10_weighAutos]
  rw [f_ref10_weighAutos_l1, wpL_loop]
  simp
def eNode (l : List Decl) : PV := .agg [.str [], .list false [], .list false [], .list false (l.map eDecl), .list false [], .list false [], .list false [], .list false []]
@[simp] theorem eNode_free (l : List Decl) : refFree (eNode l) = true := by simp [eNode]
theorem weigh (l : List Decl) (hl : l.length * 48 ≤ 140737488351232) (hc : ∀ d ∈ l, d.clock.length * 32 ≤ 140737488351232) (hn : ∀ d ∈ l, d.name.length ≤ 9223372036854775807) (o : Bool) (h : List PObj) : ∃ n : Int, callL L 220 [.agg [.list o [], .list false [eNode l]], .int .i64 600] h = some (.int .i64 n, h) ∧ (0 ≤ n ∧ n ≤ 1000000000000000000) := by
  refine some_int (callL_wpP rfl rfl ?_)
  obtain ⟨n1, w1, m1⟩ := weighDecls [] false (by simp) (by simp) (by simp) []
  obtain ⟨n2, w2, m2⟩ := weighDecls l false hl hc hn []
  unfold Mid at m1 m2
  simp at w1
  have e1 : IntKind.i64.wrap 1 = 1 := by decide
  have x1 := wrap_i64 (1 + n1) (by omega) (by omega)
  have x2 := wrap_i64 (1 + n1 + n1) (by omega) (by omega)
  have x3 := wrap_i64 (1 + n1 + n1 + n2) (by omega) (by omega)
  simp [f_ref10_Weigh]
  rw [f_ref10_Weigh_l0, wpL_loop]
  simp [e1]
  rw [f_ref10_Weigh_l1, wpL_loop]
  simp [eNode, e1, w1, w2, weighEqs0, weighExprs0, weighAutos0, x1, x2, x3]
  rw [wpL_loop]
  simp
  omega
def val (w : Int) (rows : List Row) (i : Nat) : Int := w + rows.length + (((rows.take i).map List.length).sum : Nat)
theorem val_zero (w : Int) (rows : List Row) : val w rows 0 = w + rows.length := by simp [val]
theorem val_succ (w : Int) (rows : List Row) (i : Nat) (h : i < rows.length) : val w rows (i + 1) = val w rows i + (rows[i].length : Int) := by
  unfold val
  rw [take_succ' h, List.map_append, List.sum_append]
  simp
  omega
theorem val_ge (w : Int) (rows : List Row) (i : Nat) : w + rows.length ≤ val w rows i := by unfold val; omega
theorem sum_mem : ∀ {rows : List Row} {r : Row}, r ∈ rows → r.length ≤ (rows.map List.length).sum
  | [], r, h => by simp at h
  | x :: xs, r, h => by
    simp only [List.map_cons, List.sum_cons]
    rcases List.mem_cons.1 h with rfl | h
    · omega
    · have := sum_mem h; omega
theorem val_end (w : Int) (rows : List Row) (h0 : 0 ≤ w) (h : val w rows rows.length < 2000) : rows.length < 2000 ∧ ∀ r ∈ rows, r.length < 2000 := by
  unfold val at h
  rw [List.take_length] at h
  refine ⟨by omega, fun r hr => ?_⟩
  have := sum_mem hr
  omega
structure Slim (t : Trace) : Prop where
  c : t.cols.length ≤ 200
  r : t.rows.length < 2000
  rs : ∀ r ∈ t.rows, r.length < 2000
structure Far (t : Trace) : Prop where
  c : t.cols.length * 48 ≤ 140737488351232
  r : t.rows.length * 24 ≤ 140737488351232
  cs : ∀ d ∈ t.cols, d.clock.length * 32 ≤ 140737488351232
  ns : ∀ d ∈ t.cols, d.name.length ≤ 9223372036854775807
  rs : ∀ r ∈ t.rows, r.length * 16 ≤ 140737488351232
theorem Far.ok {t : Trace} (h : Far t) : TraceOk t :=
  ⟨by have := h.c; unfold Len; omega, by have := h.r; unfold Len; omega, fun d hd => by have := h.cs d hd; unfold Len; omega, fun r hr => by have := h.rs r hr; unfold Len; omega⟩
theorem huge (t : Trace) (ht : Far t) (h : List PObj) : ∃ b : Bool, callL L 204 [eTrace t] h = some (.bool b, h) ∧ (b = false → Slim t) := by
  obtain ⟨w, hw, hw0, hw1⟩ := weigh t.cols ht.c ht.cs ht.ns true []
  have hn : PV.agg [.str [], .list false [], .list false [], .list false (t.cols.map eDecl), .list false [], .list false [], .list false [], .list false []] = eNode t.cols := rfl
  have htr := ht.r
  have w1 := wrap_i64 (w + (t.rows.length : Int)) (by omega) (by omega)
  have H : ∃ r, callL L 204 [eTrace t] h = some r ∧ ∃ b : Bool, r = (.bool b, h) ∧ (b = false → Slim t) := by
    refine callL_wpP rfl rfl ?_
    simp [f_law44_huge, setParts, hn, hw, w1]
    rw [← val_zero w t.rows]
    refine loop_any t.rows.length (fun i (x : Unit) => ⟨[eTrace t, .loc 0 [.list false (t.cols.map eDecl), .list false (t.rows.map eRow)], .bool false, .int .i64 (val w t.rows i), .int .i64 i], [], 1, h⟩) ?_ ()
    intro i hi x ih
    have hv0 := val_ge w t.rows i
    by_cases h1 : i < t.rows.length
    · have h1' : (i : Int) < t.rows.length := by omega
      have hws := wrap_succ i (by omega)
      by_cases h2 : val w t.rows i < 2000
      · have ih := ih h1 ()
        rw [val_succ w t.rows i h1] at ih
        have hr1 := ht.rs _ (List.getElem_mem h1)
        have w2 := wrap_i64 (val w t.rows i + (t.rows[i].length : Int)) (by omega) (by omega)
        simp [h1, h1', h2, hws, eRow, w2]
        exact ih
      · have h3 : 2000 ≤ val w t.rows i := by omega
        simp [h1, h1', h2, h3]
    · have h1' : ¬ (i : Int) < t.rows.length := by omega
      have hin : i = t.rows.length := by omega
      by_cases h3 : val w t.rows i < 2000
      · have h4 : ¬ 2000 ≤ val w t.rows i := by omega
        obtain ⟨e1, e2⟩ := val_end w t.rows hw0 (hin ▸ h3)
        by_cases h5 : 200 < (t.cols.length : Int)
        · have h6 : 200 < t.cols.length := by omega
          simp [h1, h1', h3, h4, h5, h6]
        · have h6 : ¬ 200 < t.cols.length := by omega
          have h7 : Slim t := ⟨by omega, e1, e2⟩
          simp [h1, h1', h3, h4, h5, h6, h7]
      · have h4 : 2000 ≤ val w t.rows i := by omega
        simp [h1, h1', h3, h4]
  obtain ⟨_, h1, b, rfl, h2⟩ := H
  exact ⟨b, h1, h2⟩
end PI.Ct
set_option maxRecDepth 100000
set_option linter.unusedSimpArgs false
set_option linter.unusedVariables false
namespace PI.Ct
open Go (IntKind BinOp UnOp)
open Tr
def one (s : List UInt8) (l : List Int) : Trace := ⟨[⟨s, 2, []⟩], l.map fun n => [⟨1, n⟩]⟩
theorem one_ok (s : List UInt8) (l : List Int) (hl : Len l.length) : TraceOk (one s l) := by
  refine ⟨by simp [one, Len], by simpa [one] using hl, ?_, ?_⟩
  · intro d hd; simp [one] at hd; subst hd; simp [Len]
  · intro r hr; simp [one] at hr; obtain ⟨n, _, rfl⟩ := hr; simp [Len]
def kx : List UInt8 := [120]
def ky : List UInt8 := [121]
theorem f1 : first (one kx [1, 2]) (one kx [1, 3]) = some (1, kx) := by decide
theorem f2 : first (one kx [1, 2]) (one kx [1]) = some (1, kx) := by decide
theorem f3 : first (one kx [1]) (one ky [2]) = none := by decide
theorem a1 : append (one kx [1, 2]) (one kx [3]) = (one kx [1, 2, 3], 0) := by decide
theorem p1 : project (one kx [1]) [ky] = (noTrace, 6) := by decide
theorem i1 : isPrefix (one kx [1]) (one kx [1, 2, 3]) = true := by decide
theorem col (s : List UInt8) (l : List Int) (hl : l.length ≤ 2147483647) : callL L 221 [.str s, .list false (l.map (PV.int .i64))] [] = some (eTrace (one s l), []) := column_run s l false hl []
theorem fst1 (s u : List UInt8) (l k : List Int) (hl : l.length ≤ 2147483647) (hk : k.length ≤ 2147483647) (h : List PObj) : ∃ h', callL L 211 [eTrace (one s l), eTrace (one u k)] h = some (eFirst (first (one s l) (one u k)), h') :=
  pFirst (one s l) (one u k) (by simp [one]) (by simp [one, Len]) (one_ok s l (by unfold Len; omega)).r (one_ok u k (by unfold Len; omega)).r (one_ok s l (by unfold Len; omega)).rs (one_ok u k (by unfold Len; omega)).rs h
theorem awake (h : List PObj) : callL L 205 [] h = some (.bool true, h) := by
  have c12 := col kx [1, 2] (by simp)
  have c13 := col kx [1, 3] (by simp)
  have c1 := col kx [1] (by simp)
  have y2 := col ky [2] (by simp)
  have c3 := col kx [3] (by simp)
  have c123 := col kx [1, 2, 3] (by simp)
  obtain ⟨h1, e1⟩ := fst1 kx kx [1, 2] [1, 3] (by simp) (by simp) []
  obtain ⟨h2, e2⟩ := fst1 kx kx [1, 2] [1] (by simp) (by simp) []
  obtain ⟨h3, e3⟩ := fst1 kx ky [1] [2] (by simp) (by simp) []
  rw [f1] at e1
  rw [f2] at e2
  rw [f3] at e3
  have e4 := pAppend (one kx [1, 2]) (one kx [3]) (one_ok _ _ (by simp [Len])) (one_ok _ _ (by simp [Len])) (by simp [one]) (by simp [one]) (by intro d hd; simp [one] at hd; subst hd; simp) (by intro r hr; simp [one] at hr; rcases hr with rfl | rfl <;> simp) (by intro r hr; simp [one] at hr; subst hr; simp) []
  rw [a1] at e4
  have e5 := pProject (one kx [1]) [ky] false (by simp) (by simp [one, Len]) (by intro d hd; simp [one] at hd; subst hd; simp) (by simp [one]) (one_ok _ _ (by simp [Len])).rs []
  rw [p1] at e5
  have e6 := pSame (one kx [1, 2, 3]) (one kx [1, 2, 3]) (one_ok _ _ (by simp [Len])) (one_ok _ _ (by simp [Len])) []
  have e7 := pPrefix (one kx [1]) (one kx [1, 2, 3]) (one_ok _ _ (by simp [Len])) (one_ok _ _ (by simp [Len])) []
  rw [i1] at e7
  simp only [List.map_cons, List.map_nil] at c12 c13 c1 y2 c3 c123 e5
  simp only [eFirst, eErr, kx, ky] at c12 c13 c1 y2 c3 c123 e1 e2 e3 e4 e5 e6 e7
  refine callL_wp rfl rfl ?_
  simp [f_law44_awake, c12, c13, c1, y2, c3, c123, e1, e2, e3, e4, e5, e6, e7]
end PI.Ct
set_option maxRecDepth 100000
set_option linter.unusedSimpArgs false
set_option linter.unusedVariables false
namespace PI
section
variable {L : Nat → Option PFunc} {V l : List PV} {g : Nat} {h : List PObj}
def endOP (L : Nat → Option PFunc) (f : PFunc) (P : PV × List PObj → Prop) (e : PExit) (st : St) : Prop := ∃ v h', endO L f (.val v, h') e st ∧ P (v, h')
@[simp] theorem endOP_normal (f : PFunc) (P : PV × List PObj → Prop) : endOP L f P .normal ⟨V, l, g, h⟩ = ∃ v, resultV ⟨V, l, g, h⟩ f.results = some v ∧ P (v, shutRes V f.results h) := by
  simp only [endOP, endO_normal, eq_iff_iff]
  constructor
  · rintro ⟨v, h', ⟨v', h1, h2⟩, h3⟩
    simp only [Prod.mk.injEq, Out.val.injEq] at h2
    obtain ⟨rfl, rfl⟩ := h2
    exact ⟨v, h1, h3⟩
  · rintro ⟨v, h1, h2⟩; exact ⟨v, _, ⟨v, h1, rfl⟩, h2⟩
@[simp] theorem endOP_ret (f : PFunc) (P : PV × List PObj → Prop) : endOP L f P .ret ⟨V, l, g, h⟩ = ∃ v, resultV ⟨V, l, g, h⟩ f.results = some v ∧ P (v, shutRes V f.results h) := endOP_normal (L := L) f P
@[simp] theorem endOP_after (f : PFunc) (P : PV × List PObj → Prop) (kd : Nat) (cs : List PV) (p : Option PV) : endOP L f P (.after kd cs p) ⟨V, l, g, h⟩ = (f.code.NR = true ∧ ∃ h1 x, dfrOf L kd (p.getD .nilIface :: cs) h = some h1 ∧ resultV ⟨V, l, g, h1⟩ f.results = some x ∧ P (x, shutRes V f.results h1)) := by
  simp only [endOP, endO_after, eq_iff_iff]
  constructor
  · rintro ⟨v, h', ⟨h0, h1, x, h2, h3, h4⟩, h5⟩
    simp only [Prod.mk.injEq, Out.val.injEq] at h4
    obtain ⟨rfl, rfl⟩ := h4
    exact ⟨h0, h1, v, h2, h3, h5⟩
  · rintro ⟨h0, h1, x, h2, h3, h5⟩; exact ⟨x, _, ⟨h0, h1, x, h2, h3, rfl⟩, h5⟩
theorem callL_wpOP {k : Nat} {f : PFunc} {args : List PV} {hp : List PObj} {P : PV × List PObj → Prop} (hf : L k = some f) (hl : args.length = f.params)
    (hw : wpL L f.code ⟨args.map dem ++ List.replicate (f.nv - f.params) .dead, [], 0, hp⟩ (endOP L f P)) (hs : f.split = false := by rfl) (hpr : f.prim = none := by rfl) (hr : f.code.isRound = false := by rfl) : ∃ r, callL L k args hp = some r ∧ P r := by
  rw [wpL_iff] at hw
  obtain ⟨e, st, h1, v, h', h2, h3⟩ := hw
  exact ⟨(v, h'), callL_wpO hf hl (wpL_iff.2 ⟨e, st, h1, h2⟩) hs hpr hr, h3⟩
end
end PI
namespace PI.Ct
open Go (IntKind BinOp UnOp)
open Tr
def bad (t : Nat) (e : Int) : PV := .iface t (.agg [.int .i64 (-1), .int .i64 (-1), .int .i64 e])
def outOf (t : Nat) (e : Int) : Out := if e = 0 then .val (.tuple []) else .boom (bad t e)
def shapeObj (en : List Enum) : PObj := .cells [.list false (en.map eEnum), .int .i64 (-1), .int .i64 (-1)]
theorem shape_must (en : List Enum) (n : Nat) (b : Bool) (e : Int) (h : List PObj) (hn : h[n]? = some (shapeObj en)) : outL L 306 [.ptr n 0, .bool b, .int .i64 e] h = some (if b then .val (.tuple []) else .boom (bad 2 e), h) := by
  refine outL_wp rfl rfl ?_
  cases b with
  | true => simp [f_shape_look_must]
  | false => simp [f_shape_look_must, hn, shapeObj, bad]
theorem shape_ident (en : List Enum) (n : Nat) (s : Str) (h : List PObj) (hn : h[n]? = some (shapeObj en)) : outL L 309 [.ptr n 0, .str s] h = some (if ident s then .val (.tuple []) else .boom (bad 2 6), h) := by
  have hi := lex_ident LX_t s []
  have hm := shape_must en n (ident s) 6 h hn
  refine outL_wp rfl rfl ?_
  cases hs : ident s with
  | true => rw [hs] at hi hm; simp [f_shape_look_ident, hi, hm]
  | false => rw [hs] at hi hm; simp [f_shape_look_ident, hi, hm]
def enumErr (u : Enum) : Int := if ident u.name = false then 6 else if u.tags.length = 0 then 8 else if 16 < u.tags.length then 3 else if u.tags.all ident then 0 else 6
theorem shape_enum_loop (en : List Enum) (n : Nat) (tags : List Str) (hl : Len tags.length) (B : PV) (x3 : PV) (g : Nat) (h : List PObj) (hn : h[n]? = some (shapeObj en)) {Q : PExit → St → Prop}
    (h0 : tags.all ident = true → ∀ y3, Q (.exit 0) ⟨[.ptr n 0, .agg [B, .list false (tags.map PV.str)], .loc 0 [B, .list false (tags.map PV.str)], y3, .list false (tags.map PV.str), .int .i64 tags.length, .int .i64 tags.length], [], g, h⟩)
    (h1 : tags.all ident = false → ∀ y3 y6, Q (.boom (bad 2 6)) ⟨[.ptr n 0, .agg [B, .list false (tags.map PV.str)], .loc 0 [B, .list false (tags.map PV.str)], y3, .list false (tags.map PV.str), .int .i64 tags.length, y6], [], g, h⟩) :
    wpL L f_shape_look_enum_l0 ⟨[.ptr n 0, .agg [B, .list false (tags.map PV.str)], .loc 0 [B, .list false (tags.map PV.str)], x3, .list false (tags.map PV.str), .int .i64 tags.length, .int .i64 0], [], g, h⟩ Q := by
  refine loop_upd tags.length (fun i => ident (tags.getD i [])) (fun i (x : PV) => [(3, x), (6, .int .i64 i)]) (fun _ _ => h) x3 ?_ ?_ ?_ rfl rfl
  · intro i hi hok x ih
    have hw := wrap_succ i (by unfold Len at hl; omega)
    simp only [List.getD, List.getElem?_eq_getElem hi, Option.getD_some] at hok
    have hid := shape_ident en n tags[i] h hn
    rw [hok] at hid
    simp [hi, hid, hw]
    simpa using ih _
  · intro i hi hok hk x
    simp only [List.getD, List.getElem?_eq_getElem hi, Option.getD_some] at hok
    have hid := shape_ident en n tags[i] h hn
    rw [hok] at hid
    have hall : tags.all ident = false := by
      rw [← Bool.not_eq_true, List.all_eq_true]
      intro hx
      have := hx _ (List.getElem_mem hi)
      rw [hok] at this
      simp at this
    simp [hi, hid]
    exact h1 hall _ _
  · intro hok x
    have hall : tags.all ident = true := by
      rw [List.all_eq_true]
      intro s hs
      obtain ⟨i, hi, rfl⟩ := List.mem_iff_getElem.1 hs
      have := hok i hi
      simpa [List.getD, hi] using this
    simp
    exact h0 hall _
theorem shape_enum (en : List Enum) (n : Nat) (u : Enum) (hl : Len u.tags.length) (h : List PObj) (hn : h[n]? = some (shapeObj en)) : outL L 307 [.ptr n 0, eEnum u] h = some (outOf 2 (enumErr u), h) := by
  have hi := shape_ident en n u.name h hn
  have hm1 := shape_must en n (decide (0 < (u.tags.length : Int))) 8 h hn
  have hm2 := shape_must en n (decide ((u.tags.length : Int) ≤ 16)) 3 h hn
  have hcl : (eEnum u).cells = [.str u.name, .list false (u.tags.map PV.str)] := rfl
  refine outL_wp rfl rfl ?_
  unfold enumErr outOf
  cases h1 : ident u.name with
  | false => rw [h1] at hi; simp [f_shape_look_enum, hi, hcl]
  | true =>
    rw [h1] at hi
    by_cases h2 : u.tags.length = 0
    · have h2' : ¬ (0 < (u.tags.length : Int)) := by omega
      simp only [h2', decide_false] at hm1
      simp [f_shape_look_enum, hi, hcl, h2]
      simp [h2] at hm1
      simp [hm1]
    · have h2' : 0 < (u.tags.length : Int) := by omega
      have h2p : 0 < u.tags.length := by omega
      have h2n : ¬ u.tags = [] := by intro e; rw [e] at h2; simp at h2
      simp only [h2', decide_true] at hm1
      by_cases h3 : 16 < u.tags.length
      · have h3' : ¬ ((u.tags.length : Int) ≤ 16) := by omega
        simp only [h3', decide_false] at hm2
        simp [f_shape_look_enum, hi, hcl, h2, h2', h2p, h3, h3', hm1, hm2, h2n]
      · have h3' : (u.tags.length : Int) ≤ 16 := by omega
        simp only [h3', decide_true] at hm2
        simp [f_shape_look_enum, hi, hcl, h2, h2', h2p, h3, h3', hm1, hm2, h2n]
        refine shape_enum_loop en n u.tags hl (.str u.name) .dead 1 h hn ?_ ?_
        · intro hall y3
          simpa using hall
        · intro hall y3 y6
          have hall' : ¬ ∀ x ∈ u.tags, ident x = true := by
            intro hx
            rw [← List.all_eq_true, hall] at hx
            simp at hx
          simp [hall']
def ShapeOK (en : List Enum) : Prop := en.length ≤ 24 ∧ ∀ u ∈ en, enumErr u = 0
theorem shape_check_loop (en : List Enum) (hl : Len en.length) (ht : ∀ u ∈ en, Len u.tags.length) (v0 v1 v2 v3 x5 x6 x7 x8 x12 x13 x14 : PV) (n g : Nat) (h : List PObj) (hn : h[n]? = some (shapeObj en)) {Q : PExit → St → Prop}
    (h0 : (∀ u ∈ en, enumErr u = 0) → ∀ y5 g', Q (.exit 0) ⟨[v0, v1, v2, v3, .ptr n 0, y5, x6, x7, x8, .list false (en.map eEnum), .int .i64 en.length, .int .i64 en.length, x12, x13, x14], [], g', h⟩)
    (h1 : ∀ e : Int, e ≠ 0 → ∀ y5 y11 g', Q (.boom (bad 2 e)) ⟨[v0, v1, v2, v3, .ptr n 0, y5, x6, x7, x8, .list false (en.map eEnum), .int .i64 en.length, y11, x12, x13, x14], [], g', h⟩) :
    wpL L f_shape_Check_l0 ⟨[v0, v1, v2, v3, .ptr n 0, x5, x6, x7, x8, .list false (en.map eEnum), .int .i64 en.length, .int .i64 0, x12, x13, x14], [], g, h⟩ Q := by
  refine loop_updG en.length (fun i => decide (enumErr (en.getD i default) = 0)) (fun i (x : PV × Nat) => [(5, x.1), (11, .int .i64 i)]) (fun _ x => x.2) (fun _ _ => h) (x5, g) ?_ ?_ ?_ rfl rfl rfl
  · intro i hi hok x ih
    have hw := wrap_succ i (by unfold Len at hl; omega)
    simp only [List.getD, List.getElem?_eq_getElem hi, Option.getD_some, decide_eq_true_eq] at hok
    have he := shape_enum en n en[i] (ht _ (List.getElem_mem hi)) h hn
    rw [outOf, hok, if_pos rfl] at he
    simp [hi, he, hw]
    simpa using ih (_, _)
  · intro i hi hok hk x
    simp only [List.getD, List.getElem?_eq_getElem hi, Option.getD_some, decide_eq_false_iff_not] at hok
    have he := shape_enum en n en[i] (ht _ (List.getElem_mem hi)) h hn
    rw [outOf, if_neg hok] at he
    simp [hi, he]
    exact h1 _ hok _ _ _
  · intro hok x
    simp
    refine h0 ?_ _ _
    intro u hu
    obtain ⟨i, hi, rfl⟩ := List.mem_iff_getElem.1 hu
    have := hok i hi
    simpa [List.getD, hi] using this
theorem rec302 (e : Int) (en : List Enum) : dfrOf L 305 [bad 2 e, .ptr 0 0, .ptr 1 0] [.cells [.int .i64 0, .int .i64 0], .cells [.int .i64 0], shapeObj en] = some [.cells [.int .i64 (-1), .int .i64 (-1)], .cells [.int .i64 e], shapeObj en] := by
  simp [dfrOf, L, LX, f_shape_Check_1, pRec, bad]
theorem rec302n (a b c : Int) (en : List Enum) : dfrOf L 305 [.nilIface, .ptr 0 0, .ptr 1 0] [.cells [.int .i64 a, .int .i64 b], .cells [.int .i64 c], shapeObj en] = some [.cells [.int .i64 a, .int .i64 b], .cells [.int .i64 c], shapeObj en] := by
  simp [dfrOf, L, LX, f_shape_Check_1, pRec, bad]
def Tells (R : Prop) (r : PV × List PObj) : Prop := ∃ w1 w2 e : Int, r.1 = .tuple [.agg [.int .i64 w1, .int .i64 w2], .int .i64 e] ∧ (e = 0 → R)
theorem shape_check (en : List Enum) (hl : Len en.length) (ht : ∀ u ∈ en, Len u.tags.length) (o : Bool) : ∃ r, callL L 302 [.agg [.list false (en.map eEnum), .list o []]] [] = some r ∧ Tells (ShapeOK en) r := by
  refine callL_wpOP rfl rfl ?_
  have hsh : ([.cells [.int .i64 0, .int .i64 0], .cells [.int .i64 0], shapeObj en] : List PObj)[2]? = some (shapeObj en) := rfl
  have hm := shape_must en 2 (decide ((en.length : Int) ≤ 24)) 3 [.cells [.int .i64 0, .int .i64 0], .cells [.int .i64 0], shapeObj en] hsh
  simp [f_shape_Check]
  rw [wpL_guarded (cs := [.ptr 0 0, .ptr 1 0]) _ _ _ rfl (by simp)]
  have hfold : PObj.cells [PV.list false (List.map eEnum en), PV.int IntKind.i64 (-1), PV.int IntKind.i64 (-1)] = shapeObj en := rfl
  by_cases h1 : (en.length : Int) ≤ 24
  · simp only [h1, decide_true] at hm
    have h1' : en.length ≤ 24 := by omega
    simp [hm, h1, h1', hfold]
    refine shape_check_loop en hl ht _ _ _ _ _ _ _ _ _ _ _ 2 _ _ hsh ?_ ?_
    · intro hall y5 g'
      simp
      rw [f_shape_Check_l1, wpL_loop]
      simp [storeInto, rec302n, loadFrom, Tells]
      exact ⟨rfl, 0, 0, 0, ⟨⟨rfl, rfl⟩, rfl⟩, fun _ => ⟨h1', hall⟩⟩
    · intro e he y5 y11 g'
      simp [rec302, loadFrom, Tells]
      exact ⟨rfl, -1, -1, e, ⟨⟨rfl, rfl⟩, rfl⟩, fun h => absurd h he⟩
  · simp only [h1, decide_false] at hm
    have h1' : ¬ en.length ≤ 24 := by omega
    simp [hm, h1, h1', hfold, rec302, loadFrom, Tells]
    exact ⟨rfl, -1, -1, 3, ⟨⟨rfl, rfl⟩, rfl⟩, fun h => by omega⟩
end PI.Ct
set_option maxRecDepth 100000
set_option linter.unusedSimpArgs false
set_option linter.unusedVariables false
namespace PI.Ct
open Go (IntKind BinOp UnOp)
open Tr
def eKey (k : Int × Str) : PV := .agg [.int .i64 k.1, .str k.2]
def eEnt (x : (Int × Str) × Int) : PV × PV := (eKey x.1, .int .i64 x.2)
abbrev Ents := List ((Int × Str) × Int)
def keys (l : Ents) : List (Int × Str) := l.map (·.1)
def mapObj (l : Ents) : PObj := .map (l.map eEnt)
def lookObj (en : List Enum) : PObj := .cells [.list false (en.map eEnum), .list false [], .int .i64 (-1), .int .i64 (-1), .map (some 2)]
theorem key_eq (a b : Int × Str) : peq true [.i, .s] (eKey a) (eKey b) = some (decide (a = b)) := by
  obtain ⟨a1, a2⟩ := a
  obtain ⟨b1, b2⟩ := b
  simp only [eKey, peq, if_true, peqs, peq1, Option.bind_some, Option.map_some, Option.some.injEq, Bool.and_true, Prod.mk.injEq]
  rw [Bool.eq_iff_iff]; simp
theorem find_key (k : Int × Str) : ∀ (l : Ents) (i : Nat), (k ∉ keys l → mfind true [.i, .s] (eKey k) (l.map eEnt) i = some none) ∧ (k ∈ keys l → ∃ j v, mfind true [.i, .s] (eKey k) (l.map eEnt) i = some (some (j, .int .i64 v)))
  | [], i => ⟨fun _ => by simp [mfind, eKey], fun h => by simp [keys] at h⟩
  | x :: l, i => by
    obtain ⟨h1, h2⟩ := find_key k l (i + 1)
    have he : peq true [.i, .s] (eKey k) (eEnt x).1 = some (decide (k = x.1)) := key_eq k x.1
    constructor
    · intro hk
      simp only [keys, List.map_cons, List.mem_cons, not_or] at hk
      simp only [List.map_cons, mfind, he, Option.bind_some, hk.1, decide_false, Bool.false_eq_true, if_false]
      exact h1 hk.2
    · intro hk
      by_cases hx : k = x.1
      · subst hx
        exact ⟨i, x.2, by simp only [List.map_cons, mfind, he, Option.bind_some, decide_true, if_true]; rfl⟩
      · simp only [keys, List.map_cons, List.mem_cons, hx, false_or] at hk
        simp only [List.map_cons, mfind, he, Option.bind_some, hx, decide_false, Bool.false_eq_true, if_false]
        exact h2 hk
theorem scope_must (en : List Enum) (b : Bool) (e : Int) (h : List PObj) (hn : h[3]? = some (lookObj en)) : outL L 308 [.ptr 3 0, .bool b, .int .i64 e] h = some (if b then .val (.tuple []) else .boom (bad 1 e), h) := by
  refine outL_wp rfl rfl ?_
  cases b with
  | true => simp [f_scope_look_must]
  | false => simp [f_scope_look_must, hn, lookObj, bad]
theorem scope_add_new (en : List Enum) (A B : PObj) (l : Ents) (k : Int × Str) (i : Int) (hk : k ∉ keys l) : outL L 304 [.ptr 3 0, eKey k, .int .i64 i] [A, B, mapObj l, lookObj en] = some (.val (.tuple []), [A, B, mapObj (l ++ [(k, i)]), lookObj en]) := by
  have hf := (find_key k l 0).1 hk
  have hm := scope_must en true 7 [A, B, mapObj l, lookObj en] rfl
  have hkk : eKey k = .agg [.int .i64 k.1, .str k.2] := rfl
  refine outL_wp rfl rfl ?_
  rw [hkk] at hf ⊢
  have e1 : mapObj l = .map (l.map eEnt) := rfl
  have e2 : lookObj en = .cells [.list false (en.map eEnum), .list false [], .int .i64 (-1), .int .i64 (-1), .map (some 2)] := rfl
  have e3 : mapObj (l ++ [(k, i)]) = .map (l.map eEnt ++ [(.agg [.int .i64 k.1, .str k.2], .int .i64 i)]) := by simp [mapObj, eEnt, eKey]
  rw [e1, e2] at hm ⊢
  rw [e3]
  simp [f_scope_look_add, hf, hm, looked, entered]
theorem scope_add_old (en : List Enum) (A B : PObj) (l : Ents) (k : Int × Str) (i : Int) (hk : k ∈ keys l) : outL L 304 [.ptr 3 0, eKey k, .int .i64 i] [A, B, mapObj l, lookObj en] = some (.boom (bad 1 7), [A, B, mapObj l, lookObj en]) := by
  obtain ⟨j, v, hf⟩ := (find_key k l 0).2 hk
  have hm := scope_must en false 7 [A, B, mapObj l, lookObj en] rfl
  have hkk : eKey k = .agg [.int .i64 k.1, .str k.2] := rfl
  refine outL_wp rfl rfl ?_
  rw [hkk] at hf ⊢
  have e1 : mapObj l = .map (l.map eEnt) := rfl
  have e2 : lookObj en = .cells [.list false (en.map eEnum), .list false [], .int .i64 (-1), .int .i64 (-1), .map (some 2)] := rfl
  rw [e1, e2] at hm ⊢
  simp [f_scope_look_add, hf, hm, looked, entered]
def tagKeys (ts : List Str) : List (Int × Str) := ts.map fun s => (0, s)
def tagEnts (ts : List Str) (i : Int) : Ents := ts.map fun s => ((0, s), i)
theorem keys_append (a b : Ents) : keys (a ++ b) = keys a ++ keys b := by simp [keys]
theorem keys_tags (ts : List Str) (i : Int) : keys (tagEnts ts i) = tagKeys ts := by simp [keys, tagEnts, tagKeys]
theorem take_snoc {α : Type} {l : List α} {i : Nat} (h : i < l.length) : l.take (i + 1) = l.take i ++ [l[i]] := by rw [List.take_add_one, List.getElem?_eq_getElem h]; rfl
theorem scope_tags (en : List Enum) (A B : PObj) (l : Ents) (idx : Int) (tags : List Str) (hl : Len tags.length) (v0 v1 v2 v3 v4 v5 v8 x9 x10 x11 x12 x13 x14 x18 x19 : PV) (g : Nat) {Q : PExit → St → Prop} (hP : (keys l).Nodup)
    (h0 : (keys l ++ tagKeys tags).Nodup → ∀ y9, Q (.exit 2) ⟨[v0, v1, v2, v3, v4, v5, .ptr 3 0, .int .i64 idx, v8, y9, x10, x11, x12, x13, x14, .list false (tags.map PV.str), .int .i64 tags.length, .int .i64 tags.length, x18, x19], [], g, [A, B, mapObj (l ++ tagEnts tags idx), lookObj en]⟩)
    (h1 : ¬ (keys l ++ tagKeys tags).Nodup → ∀ y9 y17 l', Q (.boom (bad 1 7)) ⟨[v0, v1, v2, v3, v4, v5, .ptr 3 0, .int .i64 idx, v8, y9, x10, x11, x12, x13, x14, .list false (tags.map PV.str), .int .i64 tags.length, y17, x18, x19], [], g, [A, B, mapObj l', lookObj en]⟩) :
    wpL L f_scope_Check_l0 ⟨[v0, v1, v2, v3, v4, v5, .ptr 3 0, .int .i64 idx, v8, x9, x10, x11, x12, x13, x14, .list false (tags.map PV.str), .int .i64 tags.length, .int .i64 0, x18, x19], [], g, [A, B, mapObj l, lookObj en]⟩ Q := by
  refine loop_upd tags.length (fun i => decide ((keys l ++ tagKeys (tags.take (i + 1))).Nodup)) (fun i (x : PV) => [(9, x), (17, .int .i64 i)]) (fun i _ => [A, B, mapObj (l ++ tagEnts (tags.take i) idx), lookObj en]) x9 ?_ ?_ ?_ rfl (by simp [tagEnts])
  · intro i hi hok x ih
    have hw := wrap_succ i (by unfold Len at hl; omega)
    simp only [decide_eq_true_eq] at hok
    have hnew : ((0 : Int), tags[i]) ∉ keys (l ++ tagEnts (tags.take i) idx) := by
      rw [keys_append, keys_tags]
      rw [take_snoc hi] at hok
      simp only [tagKeys, List.map_append, List.map_cons, List.map_nil] at hok
      rw [← List.append_assoc, List.nodup_append] at hok
      intro hm
      exact hok.2.2 _ hm _ (List.mem_singleton.2 rfl) rfl
    have ha := scope_add_new en A B (l ++ tagEnts (tags.take i) idx) (0, tags[i]) idx hnew
    simp only [eKey] at ha
    have hnext : l ++ tagEnts (tags.take i) idx ++ [((0, tags[i]), idx)] = l ++ tagEnts (tags.take (i + 1)) idx := by rw [take_snoc hi]; simp only [tagEnts, List.map_append, List.map_cons, List.map_nil, List.append_assoc]
    rw [hnext] at ha
    simp [hi, ha, hw]
    simpa using ih _
  · intro i hi hok hk x
    simp only [decide_eq_false_iff_not] at hok
    have hpre : (keys l ++ tagKeys (tags.take i)).Nodup := by
      cases i with
      | zero => simpa [tagKeys] using hP
      | succ i => simpa using hk i (by omega)
    have hold : ((0 : Int), tags[i]) ∈ keys (l ++ tagEnts (tags.take i) idx) := by
      rw [keys_append, keys_tags]
      refine Classical.byContradiction fun hn => hok ?_
      rw [take_snoc hi]
      simp only [tagKeys, List.map_append, List.map_cons, List.map_nil]
      rw [← List.append_assoc, List.nodup_append]
      refine ⟨hpre, by simp, ?_⟩
      intro a ha b hb e
      simp only [List.mem_singleton] at hb
      subst hb
      exact hn (e ▸ ha)
    have ha := scope_add_old en A B (l ++ tagEnts (tags.take i) idx) (0, tags[i]) idx hold
    simp only [eKey] at ha
    simp [hi, ha]
    refine h1 ?_ _ _ _
    intro hn
    apply hok
    have : tagKeys tags = tagKeys (tags.take (i + 1)) ++ tagKeys (tags.drop (i + 1)) := by
      simp only [tagKeys, ← List.map_append, List.take_append_drop]
    rw [this, ← List.append_assoc, List.nodup_append] at hn
    exact hn.1
  · intro hok x
    have hall : (keys l ++ tagKeys tags).Nodup := by
      cases ht : tags.length with
      | zero =>
        have : tags = [] := List.length_eq_zero_iff.1 ht
        subst this
        simpa [tagKeys] using hP
      | succ m =>
        have := hok m (by omega)
        simp only [decide_eq_true_eq] at this
        rwa [List.take_of_length_le (by omega)] at this
    simp
    exact h0 hall _
def unitKeys (u : Enum) : List (Int × Str) := (2, u.name) :: tagKeys u.tags
def unitEnts (u : Enum) (i : Int) : Ents := ((2, u.name), i) :: tagEnts u.tags i
def allEnts : List Enum → Nat → Ents
  | [], _ => []
  | u :: en, i => unitEnts u i ++ allEnts en (i + 1)
def allKeys (en : List Enum) : List (Int × Str) := en.flatMap unitKeys
theorem keys_unit (u : Enum) (i : Int) : keys (unitEnts u i) = unitKeys u := by
  have := keys_tags u.tags i
  simp only [unitEnts, unitKeys, keys, List.map_cons] at *
  rw [this]
theorem keys_all : ∀ (en : List Enum) (i : Nat), keys (allEnts en i) = allKeys en
  | [], i => rfl
  | u :: en, i => by simp only [allEnts, keys_append, keys_unit, keys_all en, allKeys, List.flatMap_cons]
theorem allEnts_snoc : ∀ (en : List Enum) (u : Enum) (i : Nat), allEnts (en ++ [u]) i = allEnts en i ++ unitEnts u ((i + en.length : Nat) : Int)
  | [], u, i => by simp [allEnts]
  | x :: en, u, i => by
    simp only [List.cons_append, allEnts, allEnts_snoc en u (i + 1), List.append_assoc, List.length_cons]
    rw [show i + 1 + en.length = i + (en.length + 1) by omega]
theorem allKeys_snoc (en : List Enum) (u : Enum) : allKeys (en ++ [u]) = allKeys en ++ unitKeys u := by simp [allKeys]
theorem scope_loop (en : List Enum) (A B : PObj) (hl : Len en.length) (ht : ∀ u ∈ en, Len u.tags.length) (v0 v1 v2 v3 v4 v5 x7 x8 x9 x10 v11 x15 x16 x17 x18 x19 : PV) (g : Nat) {Q : PExit → St → Prop}
    (h0 : (allKeys en).Nodup → ∀ y7 y8 y9 y15 y16 y17 g', Q (.exit 0) ⟨[v0, v1, v2, v3, v4, v5, .ptr 3 0, y7, y8, y9, x10, v11, .list false (en.map eEnum), .int .i64 en.length, .int .i64 en.length, y15, y16, y17, x18, x19], [], g', [A, B, mapObj (allEnts en 0), lookObj en]⟩)
    (h1 : ∀ y7 y8 y9 y14 y15 y16 y17 g' l', Q (.boom (bad 1 7)) ⟨[v0, v1, v2, v3, v4, v5, .ptr 3 0, y7, y8, y9, x10, v11, .list false (en.map eEnum), .int .i64 en.length, y14, y15, y16, y17, x18, x19], [], g', [A, B, mapObj l', lookObj en]⟩) :
    wpL L f_scope_Check_l1 ⟨[v0, v1, v2, v3, v4, v5, .ptr 3 0, x7, x8, x9, x10, v11, .list false (en.map eEnum), .int .i64 en.length, .int .i64 0, x15, x16, x17, x18, x19], [], g, [A, B, mapObj [], lookObj en]⟩ Q := by
  refine loop_updG en.length (fun i => decide ((allKeys (en.take (i + 1))).Nodup)) (fun i (x : (PV × PV × PV × PV × PV × PV) × Nat) => [(7, x.1.1), (8, x.1.2.1), (9, x.1.2.2.1), (15, x.1.2.2.2.1), (16, x.1.2.2.2.2.1), (17, x.1.2.2.2.2.2), (14, .int .i64 i)]) (fun _ x => x.2) (fun i _ => [A, B, mapObj (allEnts (en.take i) 0), lookObj en]) ((x7, x8, x9, x15, x16, x17), g) ?_ ?_ ?_ rfl rfl rfl
  · intro i hi hok x ih
    have hw := wrap_succ i (by unfold Len at hl; omega)
    simp only [decide_eq_true_eq] at hok
    rw [take_snoc hi, allKeys_snoc] at hok
    have hpre : (keys (allEnts (en.take i) 0)).Nodup := by rw [keys_all]; exact (List.nodup_append.1 hok).1
    have hnew : ((2 : Int), en[i].name) ∉ keys (allEnts (en.take i) 0) := by
      rw [keys_all]
      intro hm
      exact (List.nodup_append.1 hok).2.2 _ hm _ (by simp [unitKeys]) rfl
    have ha := scope_add_new en A B (allEnts (en.take i) 0) (2, en[i].name) i hnew
    simp only [eKey] at ha
    have hcl : (eEnum en[i]).cells = [.str en[i].name, .list false (en[i].tags.map PV.str)] := rfl
    simp [hi, ha, hcl]
    refine scope_tags en A B (allEnts (en.take i) 0 ++ [((2, en[i].name), (i : Int))]) i en[i].tags (ht _ (List.getElem_mem hi)) _ _ _ _ _ _ _ _ _ _ _ _ _ _ _ _ ?_ ?_ ?_
    · rw [keys_append, List.nodup_append]
      refine ⟨hpre, by simp [keys], ?_⟩
      intro a ha b hb e
      simp only [keys, List.map_cons, List.map_nil, List.mem_singleton] at hb
      subst hb
      exact hnew (e ▸ ha)
    · intro _ y9
      have hnext : allEnts (en.take i) 0 ++ [((2, en[i].name), (i : Int))] ++ tagEnts en[i].tags i = allEnts (en.take (i + 1)) 0 := by
        rw [take_snoc hi, allEnts_snoc]
        have : (en.take i).length = i := by simp; omega
        rw [this, Nat.zero_add, unitEnts, List.append_assoc]
        rfl
      rw [hnext]
      simp [hw]
      simpa using ih ((_, _, _, _, _, _), _)
    · intro hbad
      exfalso
      apply hbad
      rw [keys_append, keys_all]
      simpa [keys, unitKeys] using hok
  · intro i hi hok hk x
    simp only [decide_eq_false_iff_not] at hok
    have hpre : (keys (allEnts (en.take i) 0)).Nodup := by
      rw [keys_all]
      cases i with
      | zero => simp [allKeys]
      | succ i => simpa using hk i (by omega)
    have hcl : (eEnum en[i]).cells = [.str en[i].name, .list false (en[i].tags.map PV.str)] := rfl
    by_cases hnew : ((2 : Int), en[i].name) ∈ keys (allEnts (en.take i) 0)
    · have ha := scope_add_old en A B (allEnts (en.take i) 0) (2, en[i].name) i hnew
      simp only [eKey] at ha
      simp [hi, ha, hcl]
      exact h1 _ _ _ _ _ _ _ _ _
    · have ha := scope_add_new en A B (allEnts (en.take i) 0) (2, en[i].name) i hnew
      simp only [eKey] at ha
      simp [hi, ha, hcl]
      refine scope_tags en A B (allEnts (en.take i) 0 ++ [((2, en[i].name), (i : Int))]) i en[i].tags (ht _ (List.getElem_mem hi)) _ _ _ _ _ _ _ _ _ _ _ _ _ _ _ _ ?_ ?_ ?_
      · rw [keys_append, List.nodup_append]
        refine ⟨hpre, by simp [keys], ?_⟩
        intro a ha b hb e
        simp only [keys, List.map_cons, List.map_nil, List.mem_singleton] at hb
        subst hb
        exact hnew (e ▸ ha)
      · intro hall
        exfalso
        apply hok
        rw [take_snoc hi, allKeys_snoc]
        rw [keys_append, keys_all] at hall
        simpa [keys, unitKeys] using hall
      · intro _ y9 y17 l'
        simp
        exact h1 _ _ _ _ _ _ _ _ _
  · intro hok x
    have hall : (allKeys en).Nodup := by
      cases ht : en.length with
      | zero =>
        have : en = [] := List.length_eq_zero_iff.1 ht
        subst this
        simp [allKeys]
      | succ m =>
        have := hok m (by omega)
        simp only [decide_eq_true_eq] at this
        rwa [List.take_of_length_le (by omega)] at this
    simp
    exact h0 hall _ _ _ _ _ _ _
theorem rec301 (e : Int) (en : List Enum) (l : Ents) : dfrOf L 303 [bad 1 e, .ptr 0 0, .ptr 1 0] [.cells [.int .i64 0, .int .i64 0], .cells [.int .i64 0], mapObj l, lookObj en] = some [.cells [.int .i64 (-1), .int .i64 (-1)], .cells [.int .i64 e], mapObj l, lookObj en] := by
  simp [dfrOf, L, LX, f_scope_Check_1, pRec, bad]
theorem rec301n (a b c : Int) (en : List Enum) (l : Ents) : dfrOf L 303 [.nilIface, .ptr 0 0, .ptr 1 0] [.cells [.int .i64 a, .int .i64 b], .cells [.int .i64 c], mapObj l, lookObj en] = some [.cells [.int .i64 a, .int .i64 b], .cells [.int .i64 c], mapObj l, lookObj en] := by
  simp [dfrOf, L, LX, f_scope_Check_1, pRec, bad]
def ScopeOK (en : List Enum) : Prop := ShapeOK en ∧ (allKeys en).Nodup
theorem scope_check (en : List Enum) (hl : Len en.length) (ht : ∀ u ∈ en, Len u.tags.length) (o : Bool) : ∃ r, callL L 301 [.agg [.list false (en.map eEnum), .list o []]] [] = some r ∧ Tells (ScopeOK en) r := by
  refine callL_wpOP rfl rfl ?_
  obtain ⟨⟨r, h'⟩, hsh, w1, w2, e, hr, hok⟩ := shape_check en hl ht false
  simp only at hr
  subst hr
  by_cases he : e = 0
  · subst he
    simp [f_scope_Check, hsh]
    rw [wpL_guarded (cs := [.ptr 0 0, .ptr 1 0]) _ _ _ rfl (by simp)]
    have hfold : PObj.cells [PV.list false (List.map eEnum en), PV.list false [], PV.int IntKind.i64 (-1), PV.int IntKind.i64 (-1), PV.map (some 2)] = lookObj en := rfl
    have hfold2 : PObj.map [] = mapObj [] := rfl
    simp [hfold, hfold2, PV.cells, dem]
    refine scope_loop en _ _ hl ht _ _ _ _ _ _ _ _ _ _ _ _ _ _ _ _ _ ?_ ?_
    · intro hall y7 y8 y9 y15 y16 y17 g'
      simp
      rw [f_scope_Check_l2, wpL_loop]
      simp [storeInto, rec301n, loadFrom, Tells]
      exact ⟨rfl, 0, 0, 0, ⟨⟨rfl, rfl⟩, rfl⟩, fun _ => ⟨hok rfl, hall⟩⟩
    · intro y7 y8 y9 y14 y15 y16 y17 g' l'
      simp [rec301, loadFrom, Tells]
      exact ⟨rfl, -1, -1, 7, ⟨⟨rfl, rfl⟩, rfl⟩, fun h => by omega⟩
  · simp [f_scope_Check, hsh, he, storeInto, loadFrom, Tells]
    exact ⟨w1, w2, e, ⟨⟨rfl, rfl⟩, rfl⟩, fun h => absurd h he⟩
end PI.Ct
set_option maxRecDepth 100000
set_option linter.unusedSimpArgs false
set_option linter.unusedVariables false
namespace PI.Ct
open Go (IntKind BinOp UnOp)
open Tr
theorem join_lenB (B : Nat) : ∀ (ws : List Str), (∀ w ∈ ws, w.length ≤ B) → (Go.Lib.join ws [32]).length ≤ ws.length * (B + 1)
  | [], _ => by simp [Go.Lib.join_nil]
  | [w], h => by rw [Go.Lib.join_one]; have := h w (by simp); simp; omega
  | w :: x :: r, h => by
    rw [join_cons2]
    have h1 := h w (by simp)
    have h2 := join_lenB B (x :: r) (fun y hy => h y (List.mem_cons_of_mem _ hy))
    simp only [List.length_append, List.length_cons, Nat.add_mul, Nat.one_mul] at h2 ⊢
    omega
structure Texts (en : List Enum) (B : Nat) : Prop where
  name : ∀ u ∈ en, u.name.length ≤ B
  tag : ∀ u ∈ en, ∀ s ∈ u.tags, s.length ≤ B
theorem body_lenB {en : List Enum} (hn : Texts en 1048576) {t : Trace} (h : checkErr en t = 0) : (bodyText en t).length ≤ 140737488355328 := by
  have hv := valid_of h
  have hcl := hv.cols
  have hrl := hv.rows
  have line : ∀ ws : List Str, (∀ w ∈ ws, w.length ≤ 1048576) → ws.length ≤ 384 → (lineText ws).length ≤ 402653569 := by
    intro ws hw hl
    have := join_lenB 1048576 ws hw
    unfold lineText
    simp only [List.length_append, List.length_cons, List.length_nil]
    have h2 : ws.length * (1048576 + 1) ≤ 384 * (1048576 + 1) := Nat.mul_le_mul_right _ hl
    omega
  have l1 := line (names t.cols) (by
    intro w hw
    obtain ⟨k, hk, rfl⟩ := List.mem_iff_getElem.1 hw
    have hk' : k < t.cols.length := by simpa using hk
    simp only [names, List.getElem_map]
    have := ident_len (hv.col k hk').1
    omega) (by simpa using hcl)
  have l2 := line (typeNames en t.cols) (by
    intro w hw
    obtain ⟨k, hk, rfl⟩ := List.mem_iff_getElem.1 hw
    have hk' : k < t.cols.length := by simpa using hk
    simp only [typeNames, List.getElem_map]
    cases hx : tyName en t.cols[k].type with
    | none => simp
    | some w =>
      rcases tyName_enum hx with ⟨_, rfl⟩ | ⟨_, rfl⟩ | ⟨j, hj, _, rfl⟩
      · simp
      · simp
      · exact hn.name _ (List.getElem_mem hj)) (by simpa using hcl)
  have l3 := flat_len' (t.rows.map fun r => lineText (rowWords en t.cols r r.length)) 402653569 (by
    intro x hx
    simp only [List.mem_map] at hx
    obtain ⟨r, hr, rfl⟩ := hx
    obtain ⟨r1, r2⟩ := hv.row r hr
    refine line _ ?_ (by simp; omega)
    intro w hw
    unfold rowWords at hw
    simp only [List.mem_map, List.mem_range] at hw
    obtain ⟨k, hk, rfl⟩ := hw
    have hk' : k < t.cols.length := by omega
    have e1 : t.cols.getD k default = t.cols[k] := by simp [List.getD, hk']
    have e2 : r.getD k default = r[k] := by simp [List.getD, hk]
    rw [e1, e2]
    have ht := (hv.col k hk').2.1
    have hc := r2 k hk hk'
    unfold cellWord
    split
    · simp
    · rename_i k0
      split
      · simp
      · rename_i k2
        unfold cellErr at hc
        split at hc
        · simp at hc
        · rename_i h1
          split at hc
          · simp at hc
          · rename_i h2
            simp only [not_or, not_and, Decidable.not_not] at h1
            have k1 : r[k].kind = 1 := by
              by_cases e : r[k].kind = 1
              · exact e
              · exact absurd (h1.2 k0 e) k2
            have hh : tyHas en t.cols[k].type r[k].v = true := by
              cases hx : tyHas en t.cols[k].type r[k].v with
              | true => rfl
              | false => exact absurd ⟨k1, hx⟩ h2
            rw [valText_ok ht hh]
            obtain ⟨w, hw⟩ : ∃ w, tyName en t.cols[k].type = some w := by
              cases hx : tyName en t.cols[k].type with
              | none => rw [hx] at ht; simp at ht
              | some w => exact ⟨w, rfl⟩
            generalize r[k].v = v at hh ⊢
            generalize t.cols[k].type = ty at hh hw ⊢
            rcases tyName_enum hw with ⟨rfl, _⟩ | ⟨rfl, _⟩ | ⟨j, hj, rfl, _⟩
            · rw [if_pos rfl]
              cases (v == 1) <;> simp [boolText]
            · rw [if_neg (by decide), if_pos rfl]
              have hr : -32768 ≤ v ∧ v ≤ 32767 := by simpa [tyHas] using hh
              simp only
              unfold Go.Lib.itoa
              split
              · have := dec_len 5 v.natAbs (by omega)
                simp; omega
              · have := dec_len 5 v.toNat (by omega)
                omega
            · rw [if_neg (by omega), if_neg (by omega), enumAt_in hj]
              simp only [Option.bind_some]
              cases hg : en[j].tags[v.toNat]? with
              | none => simp
              | some s => exact hn.tag _ (List.getElem_mem hj) s (List.mem_of_getElem? hg))
  unfold bodyText
  simp only [List.length_append, List.length_map] at l3 ⊢
  have h2 : t.rows.length * 402653569 ≤ 4096 * 402653569 := Nat.mul_le_mul_right _ hrl
  omega
theorem weigh_enums (en : List Enum) (hl : Len en.length) (o : Bool) : ∃ n : Int, callL L 220 [.agg [.list false (en.map eEnum), .list o []], .int .i64 600] [] = some (.int .i64 n, []) := by
  suffices H : ∃ r, callL L 220 [.agg [.list false (en.map eEnum), .list o []], .int .i64 600] [] = some r ∧ ∃ n : Int, r = (.int .i64 n, []) by
    obtain ⟨r, h1, n, rfl⟩ := H
    exact ⟨n, h1⟩
  refine callL_wpP rfl rfl ?_
  simp [f_ref10_Weigh]
  refine loop_any en.length (fun i (x : Int) => ⟨[.agg [.list false (en.map eEnum), .list o []], .int .i64 600, .loc 0 [.list false (en.map eEnum), .list false []], .int .i64 0, .int .i64 x, .int .i64 i, .dead, .dead], [], 1, []⟩) ?_ _
  intro i hi x ih
  have last : ∀ y : Int, wpL L (.block 2 f_ref10_Weigh_l1) ⟨[.agg [.list false (en.map eEnum), .list o []], .int .i64 600, .loc 0 [.list false (en.map eEnum), .list false []], .int .i64 0, .int .i64 y, .int .i64 i, .int .i64 0, .dead], [], 1, []⟩ (seqK L (.seq (.region [⟨.l, .mov (.v 4), none⟩, ⟨.v 3, .take (.l 0), none⟩]) .ret) (endP [.var 3] fun r => ∃ n : Int, r = (.int .i64 n, []))) := by
    intro y
    rw [wpL_block, f_ref10_Weigh_l1, wpL_loop]
    simp
  by_cases h1 : i < en.length
  · have h1' : (i : Int) < en.length := by omega
    have hw := wrap_succ i (by unfold Len at hl; omega)
    have hcl : (eEnum en[i]).cells = [.str en[i].name, .list false (en[i].tags.map PV.str)] := rfl
    by_cases h2 : x < 600
    · simp [h1, h1', h2, hw, hcl]
      exact ih h1 _
    · simp [h1, h1', h2]
      simpa using last x
  · have h1' : ¬ (i : Int) < en.length := by omega
    simp [h1, h1']
    simpa using last x
theorem keys_tag_sub {en : List Enum} {u : Enum} (h : u ∈ en) : (tagKeys u.tags).Sublist (allKeys en) := by
  induction en with
  | nil => simp at h
  | cons x en ih =>
    simp only [allKeys, List.flatMap_cons]
    rcases List.mem_cons.1 h with rfl | h
    · exact ((List.sublist_cons_self _ _).trans (List.sublist_append_left _ _))
    · exact (ih h).trans (List.sublist_append_right _ _)
theorem keys_name_sub : ∀ en : List Enum, (en.map fun u => ((2 : Int), u.name)).Sublist (allKeys en)
  | [] => by simp [allKeys]
  | x :: en => by
    simp only [allKeys, List.flatMap_cons, List.map_cons, unitKeys, List.cons_append]
    exact ((keys_name_sub en).trans (List.sublist_append_right _ _)).cons_cons _
theorem named_of {en : List Enum} (h : ScopeOK en) : Named en := by
  obtain ⟨⟨h1, h2⟩, h3⟩ := h
  have unit : ∀ u ∈ en, ident u.name = true ∧ u.tags.length ≤ 16 ∧ u.tags.all ident = true := by
    intro u hu
    have := h2 u hu
    unfold enumErr at this
    split at this
    · simp at this
    · rename_i a
      split at this
      · simp at this
      · split at this
        · simp at this
        · rename_i b
          split at this
          · rename_i c
            exact ⟨by simpa using a, by omega, c⟩
          · simp at this
  refine ⟨by omega, fun u hu => (unit u hu).1, ?_, ?_⟩
  · have := h3.sublist (keys_name_sub en)
    rw [show (en.map fun u => ((2 : Int), u.name)) = (en.map (·.name)).map (fun s => ((2 : Int), s)) by rw [List.map_map]; rfl] at this
    exact List.Pairwise.of_map _ (fun a b hab e => hab (by rw [e])) this
  · intro u hu
    obtain ⟨a, b, c⟩ := unit u hu
    refine ⟨by omega, by simpa using c, ?_⟩
    have := h3.sublist (keys_tag_sub hu)
    exact List.Pairwise.of_map _ (fun a b hab e => hab (by rw [e])) this
theorem project_all {en : List Enum} {t : Trace} (hv : Valid en t) : project t (names t.cols) = (t, 0) := by
  have hidx : ∀ k (hk : k < t.cols.length), idx t.cols t.cols[k].name = some k := by
    intro k hk
    refine idx_some hk rfl ?_
    intro j hj e
    have := (hv.col k hk).2.2.2
    apply this
    simp only [names, List.mem_map]
    exact ⟨t.cols[j]'(by omega), by rw [List.mem_take_iff_getElem]; exact ⟨j, by omega, rfl⟩, e⟩
  have hall : (names t.cols).all (known t) = true := by
    rw [List.all_eq_true]
    intro s hs
    simp only [names, List.mem_map] at hs
    obtain ⟨d, hd, rfl⟩ := hs
    obtain ⟨k, hk, rfl⟩ := List.mem_iff_getElem.1 hd
    simp [known, hidx k hk]
  unfold project
  rw [if_pos hall]
  obtain ⟨cols, rows⟩ := t
  simp only [proj, Prod.mk.injEq, and_true, Trace.mk.injEq]
  simp only at hidx hall
  constructor
  · apply List.ext_getElem
    · simp [names]
    · intro k h1 h2
      simp only [names, List.getElem_map, colAt, hidx k h2]
      simp [h2]
  · refine (List.map_congr_left (g := id) ?_).trans (List.map_id _)
    intro r hr
    obtain ⟨r1, _⟩ := hv.row r hr
    simp only at r1
    unfold projRow
    apply List.ext_getElem
    · simp [names, r1]
    · intro k h1 h2
      have h4 : k < r.length := h2
      have h3 : k < cols.length := by omega
      simp only [names, List.getElem_map, hidx k h3]
      simp [h4]
theorem text_err (en : List Enum) (t : Trace) (hok : TrOK t) (hc : ¬ checkErr en t = 0) (o : Bool) (h : List PObj) : ∃ h', callL L 6 [.list o (en.map eEnum), eTrace t] h = some (.tuple [.str [], .int .i64 (checkErr en t)], h') := by
  suffices H : ∃ r, callL L 6 [.list o (en.map eEnum), eTrace t] h = some r ∧ r.1 = .tuple [.str [], .int .i64 (checkErr en t)] by
    obtain ⟨⟨v, h'⟩, h1, h2⟩ := H
    exact ⟨h', by rw [h1]; simp at h2; rw [h2]⟩
  refine callL_wpP (LX_t 6 _ rfl) rfl ?_
  obtain ⟨h', hck⟩ := trace_check LX_t en t hok false []
  generalize checkErr en t = e at *
  simp [f_trace_Text, hck, hc, endP]
theorem law_names (t : Trace) (hl : t.cols.length ≤ 200) (v0 v1 v3 v4 v5 v6 v7 v8 v9 v12 v13 v14 v15 : PV) (g : Nat) (h : List PObj) {Q : PExit → St → Prop}
    (h0 : Q (.exit 0) ⟨[v0, v1, .loc 0 [.list false (t.cols.map eDecl), .list false (t.rows.map eRow)], v3, v4, v5, v6, v7, v8, v9, .list true ((names t.cols).map PV.str), .int .i64 t.cols.length, v12, v13, v14, v15], [], g, h⟩) :
    wpL L f_law44_CompareTexts_l0 ⟨[v0, v1, .loc 0 [.list false (t.cols.map eDecl), .list false (t.rows.map eRow)], v3, v4, v5, v6, v7, v8, v9, .list true [], .int .i64 0, v12, v13, v14, v15], [], g, h⟩ Q := by
  refine loop_go t.cols.length (fun i (_ : Unit) => [(10, .list true ((names (t.cols.take i)).map PV.str)), (11, .int .i64 i)]) (fun _ _ => h) () ?_ ?_ (by simp [names]) rfl
  · intro i hi _ ih
    have hw := wrap_succ i (by omega)
    have hcl : (eDecl t.cols[i]).cells = [.str t.cols[i].name, .int .i64 t.cols[i].type, .list false (t.cols[i].clock.map eOn)] := rfl
    have hn : (names (t.cols.take (i + 1))).map PV.str = (names (t.cols.take i)).map PV.str ++ [.str t.cols[i].name] := by rw [names_succ hi]; simp
    have ih := ih ()
    rw [hn] at ih
    have hlen : (names (t.cols.take i)).length ≤ 200 := by simp [names]; omega
    generalize names (t.cols.take i) = ns at *
    have hlen2 : ns.length + 1 ≤ 2147483648 := by omega
    simp [hi, hcl, hw, hlen2]
    simpa using ih
  · intro _
    simp
    exact h0
theorem law_texts (en : List Enum) (hen : EOK en) (hl : Len en.length) (ht : ∀ u ∈ en, Len u.tags.length) (t : Trace) (hok : TrOK t) (hfar : Far t) (hb : checkErr en t = 0 → (bodyText en t).length ≤ 140737488355328) (o : Bool) (h : List PObj) :
    callL L 300 [.list o (en.map eEnum), eTrace t] h = some (.bool true, h) := by
  obtain ⟨b, hh, hs⟩ := huge t hfar []
  have haw := awake []
  refine callL_wp rfl rfl ?_
  cases b with
  | true => simp [f_law44_CompareTexts, hh, haw]
  | false =>
    have hslim := hs rfl
    obtain ⟨n, hwg⟩ := weigh_enums en hl true
    by_cases hn : (600 : Int) ≤ n
    · simp [f_law44_CompareTexts, hh, hwg, hn, haw]
    · obtain ⟨⟨r, h'⟩, hsc, w1, w2, e, hr, hsok⟩ := scope_check en hl ht true
      simp only at hr
      subst hr
      by_cases hc : checkErr en t = 0
      · obtain ⟨h3, htx⟩ := trace_text LX_t en t hok (hb hc) false []
        have htt : textOf en t = (bodyText en t, 0) := by unfold textOf; rw [if_pos hc]
        rw [htt] at htx
        by_cases he : e = 0
        · subst he
          have hnm := named_of (hsok rfl)
          have hv := valid_of hc
          obtain ⟨p1, _⟩ := parse_round hnm hc
          have hb2 : (bodyText en t).length ≤ 2147482000 := by have := body_len hnm hc; omega
          obtain ⟨h5, hp⟩ := trace_parse LX_t en hen (bodyText en t) hb2 false []
          rw [p1] at hp
          have hpr := pProject t (names t.cols) false (by have := hslim.c; simp [names]; omega) (by have := hslim.c; unfold Len; omega) hfar.cs (by have := hslim.r; omega) (fun r hr => by have := hslim.rs r hr; unfold Len; omega) []
          rw [project_all hv] at hpr
          have hsm := pSame t t hfar.ok hfar.ok []
          generalize bodyText en t = s at *
          simp only [decide_true] at hsm
          simp [eErr] at hpr
          simp at htx hp
          simp [f_law44_CompareTexts, hh, hwg, hn, hsc, htx, hp]
          refine law_names t hslim.c _ _ _ _ _ _ _ _ _ _ _ _ _ _ _ ?_
          simp [hpr, htx, hsm, haw]
        · generalize bodyText en t = s at *
          simp at htx
          simp [f_law44_CompareTexts, hh, hwg, hn, hsc, htx, he, haw]
      · obtain ⟨h3, htx⟩ := text_err en t hok hc false []
        generalize checkErr en t = ce at *
        by_cases he : e = 0
        · simp [f_law44_CompareTexts, hh, hwg, hn, hsc, htx, he, hc, haw]
        · simp [f_law44_CompareTexts, hh, hwg, hn, hsc, htx, he, hc, haw]
end PI.Ct
