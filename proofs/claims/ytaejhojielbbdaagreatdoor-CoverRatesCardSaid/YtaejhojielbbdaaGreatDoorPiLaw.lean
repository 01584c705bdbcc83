/-
  What comes in, read as values of the pure interpreter.
-/
import Derived.Test.YtaejhojielbbdaaGreatDoorPiFunc
import Derived.ProofKit
import Derived.Deep.Slices
import Derived.SizedLaws
set_option linter.unusedSimpArgs false
set_option linter.unusedVariables false
set_option linter.unusedSectionVars false
namespace PI
open Go Go.RowKit
inductive TyD where
 | bool | int (k : IntKind) | str | slice (e b : Nat) | struct (fs : List Nat)
 deriving DecidableEq, Inhabited
/-- Values of a type, as they come in. -/
inductive Sh (D : Nat → TyD) : Nat → PV → Prop where
 | bool (i : Nat) (b : Bool) (h : D i = .bool) : Sh D i (.bool b)
 | int (i : Nat) (k : IntKind) (n : Int) (h : D i = .int k) (h1 : k.min ≤ n) (h2 : n ≤ k.max) : Sh D i (.int k n)
 | str (i : Nat) (s : List UInt8) (h : D i = .str) (hl : s.length ≤ 9223372036854775807) : Sh D i (.str s)
 | slice (i e b : Nat) (es : List PV) (h : D i = .slice e b) (hl : es.length ≤ 9223372036854775807) (hb : es.length * b ≤ 140737488351232) (hs : ∀ x ∈ es, Sh D e x) : Sh D i (.list false es)
 | struct (i : Nat) (fs : List Nat) (ps : List PV) (h : D i = .struct fs) (hl : ps.length = fs.length) (hs : ∀ (j f : Nat) (p : PV), fs[j]? = some f → ps[j]? = some p → Sh D f p) : Sh D i (.agg (ps.flatMap PV.cells))
def fieldsOk (P : Program) (tm : Nat → TypeId) (n : Nat) : List Nat → List Field → Nat → Bool
 | [], [], _ => true
 | f :: fs, g :: gs, off => decide (f < n) && (g.type == tm f) && (g.offset == off) && fieldsOk P tm n fs gs (off + P.cellsOf g.type)
 | _, _, _ => false
def sumCells (P : Program) : List Field → Nat
 | [] => 0
 | g :: gs => P.cellsOf g.type + sumCells P gs
/-- A type of the list is the program's. -/
def matchT (P : Program) (D : Nat → TyD) (tm : Nat → TypeId) (n i : Nat) : Bool :=
 match D i, P.underlying (tm i) with
 | .bool, some .bool => P.cellsOf (tm i) == 1
 | .int k, some (.int k') => k == k' && P.cellsOf (tm i) == 1
 | .str, some .string => P.cellsOf (tm i) == 1
 | .slice e b, some (.slice t) => decide (e < n) && t == tm e && P.cellsOf (tm i) == 1 && P.cellsOf (tm e) != 0 && P.bytesOf (tm e) == b
 | .struct fs, some (.struct gs) => fieldsOk P tm n fs gs.toList 0 && P.cellsOf (tm i) == sumCells P gs.toList
 | _, _ => false
mutual
/-- How many values and letters a value holds. -/
def wt : PV → Nat
 | .str s => s.length + 1
 | .list _ es => wts es + 1
 | .agg cs => wts cs + 1
 | _ => 1
def wts : List PV → Nat
 | [] => 0
 | v :: vs => wt v + wts vs
end
mutual
/-- How many values and letters a reading holds. -/
def dbulk {H : Type} : DataW H → Nat
 | .lit (.string bytes) => bytes.length + 1
 | .lit _ => 1
 | .nil => 1
 | .ptr d => dbulk d + 1
 | .slice elems spare => dbulkAll elems + dbulkAll spare + 1
 | .agg parts => dbulkAll parts + 1
 | .iface _ d => dbulk d + 1
 | .map entries => dbulkEntries entries + 1
 | .held _ => 1
def dbulkAll {H : Type} : List (DataW H) → Nat
 | [] => 0
 | d :: r => dbulk d + dbulkAll r
def dbulkEntries {H : Type} : List (Lit × DataW H) → Nat
 | [] => 0
 | x :: r => dbulkEntry x + dbulkEntries r
def dbulkEntry {H : Type} : Lit × DataW H → Nat
 | (.string bytes, d) => bytes.length + dbulk d + 1
 | (_, d) => dbulk d + 1
end
theorem wts_append : ∀ (a b : List PV), wts (a ++ b) = wts a + wts b
 | [], b => by simp [wts]
 | x :: a, b => by simp only [List.cons_append, wts, wts_append a b]; omega
theorem wts_cells (p : PV) : wts p.cells ≤ wt p := by
 cases p <;> simp [PV.cells, wts, wt]
theorem wts_flat : ∀ ps : List PV, wts (ps.flatMap PV.cells) ≤ wts ps
 | [] => by simp [wts]
 | p :: ps => by
   have := wts_cells p
   have := wts_flat ps
   simp only [List.flatMap_cons, wts_append, wts]
   omega
theorem wts_le {H : Type} : ∀ (es : List PV) (ds : List (DataW H)), es.length = ds.length → (∀ (k : Nat) (e : PV) (d : DataW H), es[k]? = some e → ds[k]? = some d → wt e ≤ dbulk d) → wts es ≤ dbulkAll ds
 | [], [], _, _ => by simp [wts]
 | e :: es, d :: ds, hl, h => by
   have h1 := h 0 e d rfl rfl
   have h2 := wts_le es ds (by simpa using hl) (fun k e' d' he hd => h (k + 1) e' d' (by simpa using he) (by simpa using hd))
   simp only [wts, dbulkAll]
   omega
section
variable {H : Type} {enc : TypeId × Value → H} {P : Program} {w : World} {base : Nat} {spare : Nat → Bool} {held : Bool} {N : Nm} {D : Nat → TyD} {tm : Nat → TypeId}
def fix0 (w : World) : Nat → Nat → Prop := fun b o => (w.cell? ⟨b, o, none⟩).isSome = true
theorem cells?_get {a : Addr} {n : Nat} {cs : List Value} (h : w.cells? base a n = some cs) : cs.length = n ∧ ∀ (j : Nat) (v : Value), cs[j]? = some v → w.cell? (a.add j) = some v := by
 obtain ⟨h1, h2, h3⟩ := World.cells?_some h
 refine ⟨h2, ?_⟩
 intro j v hv
 have hj : j < n := by have := (List.getElem?_eq_some_iff.1 hv).1; omega
 rw [h3 j hj]; exact hv
theorem sum_le (P : Program) : ∀ {fs : List Nat} {gs : List Field} {n off : Nat}, fieldsOk P tm n fs gs off = true → fs.length = gs.length
 | [], [], _, _, _ => rfl
 | f :: fs, g :: gs, n, off, h => by
   simp only [fieldsOk, Bool.and_eq_true] at h
   simp [sum_le P h.2]
 | [], _ :: _, _, _, h => by simp [fieldsOk] at h
 | _ :: _, [], _, _, h => by simp [fieldsOk] at h
/-- Fields one behind the other, each read, are the whole read. -/
theorem fields_sh {fix : Nat → Nat → Prop} {hp : Nat → Option Nat} {cs : List Value} {n : Nat} : ∀ {Q : Nat → PV → Prop} {fs : List Nat} {gs : List Field} {off : Nat}, fieldsOk P tm n fs gs off = true → cs.length = off + sumCells P gs →
  (∀ (j : Nat) (f : Nat) (g : Field), fs[j]? = some f → gs[j]? = some g → f < n → g.type = tm f → ∃ p, (Sh D f p ∧ Q j p) ∧ CellsR N w fix hp ((cs.drop g.offset).take (P.cellsOf g.type)) p.cells ∧ ((cs.drop g.offset).take (P.cellsOf g.type)).length = P.cellsOf g.type) →
  ∃ ps : List PV, ps.length = fs.length ∧ (∀ (j f : Nat) (p : PV), fs[j]? = some f → ps[j]? = some p → Sh D f p ∧ Q j p) ∧ CellsR N w fix hp (cs.drop off) (ps.flatMap PV.cells)
 | Q, [], [], off, _, hl, _ => ⟨[], rfl, by simp, by
   have : cs.drop off = [] := List.drop_eq_nil_of_le (by simp [sumCells] at hl; omega)
   rw [this]; exact ⟨rfl, by simp, by simp⟩⟩
 | Q, f :: fs, g :: gs, off, h, hl, hx => by
   simp only [fieldsOk, Bool.and_eq_true, decide_eq_true_eq, beq_iff_eq] at h
   obtain ⟨⟨⟨h1, h2⟩, h3⟩, h4⟩ := h
   simp only [sumCells] at hl
   obtain ⟨ps, p1, p2, p3⟩ := fields_sh (Q := fun j => Q (j + 1)) h4 (by omega) (fun j f' g' hf hg => hx (j + 1) f' g' (by simpa using hf) (by simpa using hg))
   obtain ⟨p, q1, q2, q3⟩ := hx 0 f g rfl rfl h1 h2
   refine ⟨p :: ps, by simp [p1], ?_, ?_⟩
   ·intro j f' p' hf hp'
    cases j with
    | zero => simp at hf hp'; subst hf hp'; exact q1
    | succ j => exact p2 j f' p' (by simpa using hf) (by simpa using hp')
   ·simp only [List.flatMap_cons]
    rw [h3] at q2
    have hsplit : cs.drop off = (cs.drop off).take (P.cellsOf g.type) ++ cs.drop (off + P.cellsOf g.type) := by
     rw [← List.drop_drop, List.take_append_drop]
    rw [hsplit]
    exact q2.append p3
 | _, [], _ :: _, _, h, _, _ => by simp [fieldsOk] at h
 | _, _ :: _, [], _, h, _, _ => by simp [fieldsOk] at h
theorem one_cells {v : Value} {p : PV} {hp : Nat → Option Nat} {fix : Nat → Nat → Prop} (h : VR N w fix hp v p) (hf : p.flat = true) (hc : p.cells = [p]) : CellsR N w fix hp [v] p.cells := by
 rw [hc]
 refine ⟨rfl, by simpa using hf, ?_⟩
 intro i c x h1 h2
 cases i with
 | zero => simp at h1 h2; subst h1 h2; exact h
 | succ i => simp at h1
theorem weights_all {e : TypeId} : ∀ {ds : List (DataW H)} {k : Nat} {d : DataW H}, ds[k]? = some d → (DataW.weightsAll P e ds).all (· ≤ reachBytes) = true → (d.weights P e).all (· ≤ reachBytes) = true
 | d0 :: ds, 0, d, hd, h => by
   simp only [List.getElem?_cons_zero, Option.some.injEq] at hd; subst hd
   simp only [DataW.weightsAll, List.all_append, Bool.and_eq_true] at h
   exact h.1
 | d0 :: ds, k + 1, d, hd, h => by
   simp only [List.getElem?_cons_succ] at hd
   simp only [DataW.weightsAll, List.all_append, Bool.and_eq_true] at h
   exact weights_all hd h.2
 | [], _, _, hd, _ => by simp at hd
theorem weights_each {ts : List TypeId} {ds : List (DataW H)} {j : Nat} {t : TypeId} {d : DataW H} (ht : ts[j]? = some t) (hd : ds[j]? = some d) (h : (DataW.weightsEach P ts ds).all (· ≤ reachBytes) = true) : (d.weights P t).all (· ≤ reachBytes) = true := by
 rw [List.all_eq_true] at h ⊢
 exact fun n hn => h n (DataW.weights_mem_each ht hd n hn)
theorem trod_sh {n : Nat} {hp : Nat → Option Nat} (hM : ∀ i, i < n → matchT P D tm n i = true) : ∀ (fuel i : Nat) (cs : List Value) (x : DataW H × List MemPlace), i < n → DataW.trod enc P w base spare held fuel (tm i) cs = some x → (x.1.weights P (tm i)).all (· ≤ reachBytes) = true →
  ∃ p, (Sh D i p ∧ wt p ≤ dbulk x.1) ∧ cs.length = P.cellsOf (tm i) ∧ CellsR N w (fix0 w) hp cs p.cells := by
 intro fuel
 induction fuel with
 | zero => intro i cs x _ h; simp [DataW.trod] at h
 | succ fuel ih =>
   intro i cs x hi h hwg
   have hm := hM i hi
   unfold matchT at hm
   split at hm
   ·rename_i hd hu
    obtain ⟨b, rfl, rfl⟩ := DataW.trod_bool hu h
    simp only [beq_iff_eq] at hm
    exact ⟨.bool b, ⟨.bool i b hd, by simp [wt, dbulk]⟩, by simp [hm], one_cells (.bool b) rfl rfl⟩
   ·rename_i k k' hd hu
    obtain ⟨m, rfl, rfl, hw⟩ := DataW.trod_int hu h
    simp only [Bool.and_eq_true, beq_iff_eq] at hm
    obtain ⟨rfl, hm⟩ := hm
    simp only [Lit.wf, Bool.and_eq_true, decide_eq_true_eq] at hw
    exact ⟨.int k m, ⟨.int i k m hd hw.1 hw.2, by simp [wt, dbulk]⟩, by simp [hm], one_cells (.int k m) rfl rfl⟩
   ·rename_i hd hu
    obtain ⟨s, rfl, rfl, hs⟩ := DataW.trod_string hu h
    simp only [beq_iff_eq] at hm
    have hl : s.data.toList.length = s.size := Array.length_toList
    exact ⟨.str s.data.toList, ⟨.str i _ hd (by rw [hl]; simpa [maxLen] using hs), by simp [wt, dbulk]⟩, by simp [hm], one_cells (.str s) rfl rfl⟩
   ·rename_i e bts t hd hu
    simp only [Bool.and_eq_true, decide_eq_true_eq, beq_iff_eq, bne_iff_ne, ne_eq] at hm
    obtain ⟨⟨⟨⟨he, rfl⟩, hm⟩, hsz0⟩, hbts⟩ := hm
    rcases DataW.trod_slice hu h with ⟨rfl, rfl⟩ | ⟨a, len, cap, elems, rest, m, hmf, rfl, rfl, hb, hl, hmx, hlen, hel, _⟩
    ·exact ⟨.list false [], ⟨.slice i e bts [] hd (by simp) (by simp) (by simp), by simp [wt, wts, dbulk]⟩, by simp [hm], one_cells (.nils false) rfl rfl⟩
    ·have hmf' : m = fuel := by omega
     subst hmf'
     by_cases h0 : len = 0
     ·subst h0
      exact ⟨.list false [], ⟨.slice i e bts [] hd (by simp) (by simp) (by simp), by simp [wt, wts, dbulk]⟩, by simp [hm], one_cells (.void false a cap) rfl rfl⟩
     ·simp only [DataW.weights, hu, List.all_cons, List.all_append, Bool.and_eq_true, decide_eq_true_eq] at hwg
      obtain ⟨hwg1, hwg2, _⟩ := hwg
      have hget : ∀ k, k < len → ∃ p cs', (Sh D e p ∧ ∀ d, elems[k]? = some d → wt p ≤ dbulk d.1) ∧ cs'.length = P.cellsOf (tm e) ∧ CellsR N w (fix0 w) hp cs' p.cells ∧ w.cells? base (a.add (k * P.cellsOf (tm e))) (P.cellsOf (tm e)) = some cs' := by
       intro k hk
       have := hel k hk
       rw [List.getElem?_eq_getElem (by omega)] at this
       simp only [Option.bind_eq_some_iff] at this
       obtain ⟨cs', hc, ht⟩ := this
       obtain ⟨p, h1, h2, h3⟩ := ih e cs' _ he ht (weights_all (k := k) (by rw [List.getElem?_map, List.getElem?_eq_getElem (by omega)]; rfl) hwg2)
       refine ⟨p, cs', ⟨h1.1, ?_⟩, h2, h3, hc⟩
       intro d hd'
       rw [List.getElem?_eq_getElem (by omega)] at hd'
       cases hd'
       exact h1.2
      have hch : ∃ F : Nat → PV, ∀ k, k < len → ∃ cs', (Sh D e (F k) ∧ ∀ d, elems[k]? = some d → wt (F k) ≤ dbulk d.1) ∧ cs'.length = P.cellsOf (tm e) ∧ CellsR N w (fix0 w) hp cs' (F k).cells ∧ w.cells? base (a.add (k * P.cellsOf (tm e))) (P.cellsOf (tm e)) = some cs' := by
       refine ⟨fun k => if hk : k < len then (hget k hk).choose else .dead, fun k hk => ?_⟩
       simp only [dif_pos hk]
       exact (hget k hk).choose_spec
      obtain ⟨F, hF⟩ := hch
      let sz := P.cellsOf (tm e)
      let es : List PV := (List.range len).map F
      have hes : ∀ (k : Nat) (y : PV), es[k]? = some y → k < len ∧ y = F k := by
       intro k y hy
       simp only [es, List.getElem?_map, Option.map_eq_some_iff] at hy
       obtain ⟨m', hm', rfl⟩ := hy
       obtain ⟨h1, h2⟩ := List.getElem?_eq_some_iff.1 hm'
       simp at h1 h2
       exact ⟨h1, by rw [h2]⟩
      have hmem : ∀ y ∈ es, ∃ k, k < len ∧ y = F k := by
       intro y hy
       obtain ⟨k, hk⟩ := List.mem_iff_getElem?.1 hy
       exact ⟨k, hes k y hk⟩
      have hsh : Sh D i (.list false es) := by
       refine .slice i e bts es hd (by simp [es]; simp [maxLen] at hmx; omega) ?_ ?_
       ·rw [← hbts, show es.length = len by simp [es]]
        have h1 : len * P.bytesOf (tm e) ≤ ((elems.map (·.1)).length + (rest.map (·.1)).length) * P.bytesOf (tm e) := Nat.mul_le_mul_right _ (by simp; omega)
        have h2 : reachBytes = 140737488351232 := rfl
        omega
       intro y hy
       obtain ⟨k, hk, rfl⟩ := hmem y hy
       obtain ⟨_, h1, _⟩ := hF k hk
       exact h1.1
      have hwt : wt (.list false es) ≤ dbulk (DataW.slice (elems.map (·.1)) (rest.map (·.1))) := by
       have := wts_le es (elems.map (·.1)) (by simp [es, hlen]) (by
        intro k e' d' he' hd'
        obtain ⟨hk, rfl⟩ := hes k e' he'
        obtain ⟨_, h1, _⟩ := hF k hk
        simp only [List.getElem?_map, Option.map_eq_some_iff] at hd'
        obtain ⟨dd, h2, rfl⟩ := hd'
        exact h1.2 dd h2)
       simp only [wt, dbulk]
       omega
      refine ⟨.list false es, ⟨hsh, hwt⟩, by simp [hm], one_cells ?_ rfl rfl⟩
      have hz : sz ≠ 0 := hsz0
      have hspot : a.spot = none := by
       obtain ⟨cs', _, h2, _, h4⟩ := hF 0 (by omega)
       obtain ⟨_, h5⟩ := cells?_get h4
       have hlt : 0 < cs'.length := by rw [h2]; show 0 < sz; omega
       have := h5 0 cs'[0] (List.getElem?_eq_getElem hlt)
       have := World.cell?_spot this
       simpa [Addr.add] using this
      obtain ⟨b, off, spot⟩ := a
      simp only at hspot
      subst hspot
      have hcell : ∀ k j, k < len → j < sz → ∃ v, w.cell? ⟨b, off + (k * sz + j), none⟩ = some v ∧ ∀ y, (F k).cells[j]? = some y → VR N w (fix0 w) hp v y := by
       intro k j hk hj
       obtain ⟨cs', _, h2, h3, h4⟩ := hF k hk
       obtain ⟨_, h5⟩ := cells?_get h4
       have hlt : j < cs'.length := by rw [h2]; exact hj
       have := h5 j cs'[j] (List.getElem?_eq_getElem hlt)
       rw [addr_add, addr_add] at this
       refine ⟨cs'[j], by rw [← Nat.add_assoc]; exact this, fun y hy => h3.2.2 j cs'[j] y (List.getElem?_eq_getElem hlt) hy⟩
      let cv : Nat → Value := fun k => (w.cell? ⟨b, off + k, none⟩).getD undef
      have hlenes : es.length = len := by simp [es]
      refine .list false b off len cap sz es cv hlenes hl ?_ ?_ ?_ ?_
      ·intro y hy
       obtain ⟨k, hk, rfl⟩ := hmem y hy
       obtain ⟨cs', _, h2, h3, _⟩ := hF k hk
       have := h3.1; omega
      ·intro y hy
       obtain ⟨k, hk, rfl⟩ := hmem y hy
       obtain ⟨cs', _, h2, h3, _⟩ := hF k hk
       exact h3.2.1
      ·intro k hk
       have hd1 : k / sz < len := by rw [Nat.div_lt_iff_lt_mul (by omega)]; exact hk
       have hd2 : k % sz < sz := Nat.mod_lt _ (by omega)
       obtain ⟨v, hv, _⟩ := hcell (k / sz) (k % sz) hd1 hd2
       have he' : k / sz * sz + k % sz = k := by rw [Nat.mul_comm]; exact Nat.div_add_mod k sz
       rw [he'] at hv
       exact ⟨by simp [cv, hv], by simp [fix0, hv]⟩
      ·intro k y hy j z hz'
       obtain ⟨hk, rfl⟩ := hes k y hy
       have hj : j < sz := by
        obtain ⟨cs', _, h2, h3, _⟩ := hF k hk
        have h6 := (List.getElem?_eq_some_iff.1 hz').1
        have := h3.1
        show j < P.cellsOf (tm e)
        omega
       obtain ⟨v, hv, hvr⟩ := hcell k j hk hj
       have : cv (k * sz + j) = v := by simp [cv, hv]
       rw [this]
       exact hvr z hz'
   ·rename_i fs gs hd hu
    simp only [Bool.and_eq_true, beq_iff_eq] at hm
    obtain ⟨xs, m, hmf, rfl, hcl, hxl, hat⟩ := DataW.trod_struct hu h
    have hmf' : m = fuel := by omega
    subst hmf'
    simp only [DataW.weights, hu] at hwg
    obtain ⟨ps, p1, p2, p3⟩ := fields_sh (N := N) (w := w) (fix := fix0 w) (hp := hp) (D := D) (cs := cs) (Q := fun j p => ∀ d, xs[j]? = some d → wt p ≤ dbulk d.1) hm.1 (by rw [hcl, hm.2]; simp) (by
     intro j f g hf hg hfn hgt
     have hjl : j < gs.size := by have := (List.getElem?_eq_some_iff.1 hg).1; simpa using this
     have := hat j g (by simpa using hg)
     rw [List.getElem?_eq_getElem (by omega), hgt] at this
     obtain ⟨p, h1, h2, h3⟩ := ih f _ _ hfn this (weights_each (j := j) (by rw [List.getElem?_map, hg]; simp [hgt]) (by rw [List.getElem?_map, List.getElem?_eq_getElem (by omega)]; rfl) hwg)
     rw [hgt]
     refine ⟨p, ⟨h1.1, ?_⟩, h3, h2⟩
     intro d hd'
     rw [List.getElem?_eq_getElem (by omega)] at hd'
     cases hd'
     exact h1.2)
    have hfl := sum_le P hm.1
    have hwt : wt (.agg (ps.flatMap PV.cells)) ≤ dbulk (DataW.agg (xs.map (·.1))) := by
     have h1 := wts_flat ps
     have h2 := wts_le ps (xs.map (·.1)) (by rw [p1, List.length_map, hxl, hfl]; simp) (by
      intro k e' d' he' hd'
      simp only [List.getElem?_map, Option.map_eq_some_iff] at hd'
      obtain ⟨dd, h2, rfl⟩ := hd'
      have hk : k < fs.length := by have := (List.getElem?_eq_some_iff.1 he').1; omega
      exact (p2 k fs[k] e' (List.getElem?_eq_getElem hk) he').2 dd h2)
     simp only [wt, dbulk]
     omega
    refine ⟨.agg (ps.flatMap PV.cells), ⟨.struct i fs ps hd p1 (fun j f p hf hp => (p2 j f p hf hp).1), hwt⟩, hcl, ?_⟩
    show CellsR N w (fix0 w) hp cs (ps.flatMap PV.cells)
    simpa using p3
   ·simp at hm
end
end PI
