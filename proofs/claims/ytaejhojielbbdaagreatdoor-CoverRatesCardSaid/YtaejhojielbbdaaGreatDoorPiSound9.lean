/-
  The pure interpreter is right, 9: calls; every operation.
-/
import Derived.Test.YtaejhojielbbdaaGreatDoorPiSoundN
set_option linter.unusedSimpArgs false
set_option linter.unusedVariables false
set_option linter.unusedSectionVars false
namespace PI
open Go Go.RowKit
theorem refFrees_get : ∀ {ps : List PV}, refFrees ps = true → ∀ p ∈ ps, refFree p = true
 | [], _, p, hp => by simp at hp
 | x :: xs, h, p, hp => by
   simp only [refFrees, Bool.and_eq_true] at h
   rcases List.mem_cons.1 hp with rfl | hp
   ·exact h.1
   ·exact refFrees_get h.2 p hp
theorem refFree_cells {p : PV} (h : refFree p = true) : ∀ x ∈ p.cells, refFree x = true := by
 intro x hx
 cases p <;> simp only [PV.cells, List.mem_singleton] at hx <;> first | (subst hx; exact h) | (simp at hx; done) | skip
 exact refFrees_get (by simpa [refFree] using h) x hx
/-- What holds no address of the shared heap reads anywhere. -/
theorem VR.free {N : Nm} {w : World} {fix : Nat → Nat → Prop} {hp hp' : Nat → Option Nat} {v : Value} {p : PV} (h : VR N w fix hp v p) (hr : refFree p = true) : VR N w fix hp' v p := by
 induction h with
 | bool b => exact .bool b
 | int k n => exact .int k n
 | str s => exact .str s
 | nils own => exact .nils own
 | void own a cap => exact .void own a cap
 | nils' => exact .nils'
 | void' a cap => exact .void' a cap
 | list own b off len cap sz es cv hlen hcap hsz hflat hcell _ ih =>
   refine .list own b off len cap sz es cv hlen hcap hsz hflat hcell (fun i e he j x hx => ih i e he j x hx ?_)
   have := refFrees_get (by simpa [refFree] using hr) e (List.mem_of_getElem? he)
   exact refFree_cells this x (List.mem_of_getElem? hx)
 | agg cs ps hlen hflat hown _ ih => exact .agg cs ps hlen hflat hown (fun i c p hc hp => ih i c p hc hp (refFrees_get (by simpa [refFree] using hr) p (List.mem_of_getElem? hp)))
 | tuple cs ps hlen _ ih => exact .tuple cs ps hlen (fun i c p hc hp => ih i c p hc hp (refFrees_get (by simpa [refFree] using hr) p (List.mem_of_getElem? hp)))
 | nilptr => exact .nilptr
 | cptr b off ps cv hflat hcell _ ih => exact .cptr b off ps cv hflat hcell (fun k x hx => ih k x hx (refFrees_get (by simpa [refFree] using hr) x (List.mem_of_getElem? hx)))
 | ptr n off b h => simp [refFree] at hr
 | rowp n sz agg len b cap h hcap hsh => simp [refFree] at hr
 | rows n sz agg off len b o cap m T h hcap ho hsh hm => simp [refFree] at hr
 | mapn => exact .mapn
 | map n b h => simp [refFree] at hr
 | yield k n l y tmps caps h0 hl hr0 hlen _ _ _ => simp [refFree, refFrees] at hr
 | func k fs cs pf pc h0 h1 h2 _ _ ihf ihc =>
   simp only [refFree, Bool.and_eq_true] at hr
   exact .func k fs cs pf pc h0 h1 h2 (fun i c p hc hp => ihf i c p hc hp (refFrees_get hr.1 p (List.mem_of_getElem? hp))) (fun i c p hc hp => ihc i c p hc hp (refFrees_get hr.2 p (List.mem_of_getElem? hp)))
 | nilfunc => exact .nilfunc
 | iface t v p _ ih => exact .iface t v p (ih (by simpa [refFree] using hr))
 | nilIface => exact .nilIface
theorem VR.cp_dem {N : Nm} {w : World} {fix : Nat → Nat → Prop} {hp : Nat → Option Nat} {v : Value} {p : PV} (h : VR N w fix hp v p) : cp (PI.dem p) = some (PI.dem p) := by
 cases h <;> rfl
theorem rowNos_mem {n sz len : Nat} {agg : Bool} : ∀ {ps : List PV}, .rowp n sz agg len ∈ ps → n ∈ rowNos ps
 | p :: ps, h => by
   simp only [rowNos, List.mem_append]
   rcases List.mem_cons.1 h with h | h
   ·subst h; exact .inl (by simp [rowpNo])
   ·exact .inr (rowNos_mem h)
/-- The ghosts when rows are given back: their cells are fixed. -/
def GS.shut (G : GS) (ns : List Nat) (heap : List PObj) : GS :=
 { G with fix := fun b o => G.fix b o ∨ ∃ n ∈ ns, ∃ cs : List PV, G.heap n = some b ∧ heap[n]? = some (.cells cs) ∧ o < cs.length }
section
variable {N : Nm}
theorem VR.shut {w : World} {G : GS} {ns : List Nat} {heap : List PObj} {v : Value} {p : PV} (h : VR N w G.fix G.heap v p) : VR N w (G.shut ns heap).fix (G.shut ns heap).heap v p :=
 h.mono (fun _ _ h => ⟨.inl h, rfl⟩) (fun _ _ h => h) (ShapeLe.refl w)
theorem gones_get : ∀ (ns : List Nat) (h : List PObj) (n : Nat), (n ∈ ns → (gones ns h)[n]? = h[n]?.map (fun _ => .gone)) ∧ (n ∉ ns → (gones ns h)[n]? = h[n]?)
 | [], h, n => by simp [gones]
 | m :: ns, h, n => by
   simp only [gones]
   obtain ⟨i1, i2⟩ := gones_get ns (h.set m .gone) n
   rw [List.getElem?_set] at i1 i2
   by_cases hm : m = n
   ·subst hm
    refine ⟨fun _ => ?_, fun hn => absurd (by simp) hn⟩
    by_cases hr : m ∈ ns
    ·rw [i1 hr]
     by_cases hlt : m < h.length <;> simp [hlt]
    ·rw [i2 hr]
     by_cases hlt : m < h.length <;> simp [hlt]
   ·have hne : ¬ n = m := fun e => hm e.symm
    rw [if_neg hm] at i1 i2
    simp only [List.mem_cons, hne, false_or]
    exact ⟨i1, i2⟩
theorem gones_len : ∀ (ns : List Nat) (h : List PObj), (gones ns h).length = h.length
 | [], h => rfl
 | n :: ns, h => by simp only [gones]; rw [gones_len ns]; simp
theorem HR.shutG {w : World} {G : GS} {heap h2 : List PObj} {ns : List Nat} (h : HR N w G heap) (hg : ∀ n : Nat, (n ∈ ns → h2[n]? = heap[n]?.map (fun _ => PObj.gone)) ∧ (n ∉ ns → h2[n]? = heap[n]?)) : HR N w (G.shut ns heap) h2 := by
 have own : ∀ n b, n ∈ ns → ∀ cs, G.heap n = some b → heap[n]? = some (.cells cs) → G.ow b = some (.hobj n) := by
  intro n b _ cs h1 h2
  rcases h.1 n _ h2 with h3 | ⟨b', k1, k2, _⟩
  ·simp at h3
  rw [h1] at k1; cases k1; exact k2
 have room : ∀ {n k : Nat} {v : Value} {es : List PV}, Room w G (.hcell n k) v es → Room w (G.shut ns heap) (.hcell n k) v es := by
  intro n k v es hr
  unfold Room at *
  split at hr
  ·rename_i a len cap
   rcases hr with hr | ⟨h1, sz, cs, T, h2, h3, h4, h5, h6⟩
   ·exact .inl hr
   ·refine .inr ⟨h1, sz, cs, T, h2, h3, h4, h5, ?_⟩
    rintro o ho (hf | ⟨m, hm, cs', k1, k2, _⟩)
    ·exact h6 o ho hf
    ·have := own m _ hm cs' k1 k2
     rw [h1] at this; simp at this
  ·trivial
 refine ⟨?_, ⟨fun t ht => ⟨.inl (h.2.1 t ht).1, (h.2.1 t ht).2⟩, h.2.2⟩⟩
 intro n ob hob
 by_cases hn : n ∈ ns
 ·rw [(hg n).1 hn] at hob
  simp only [Option.map_eq_some_iff] at hob
  obtain ⟨ob0, h0, rfl⟩ := hob
  exact .inl rfl
 ·rw [(hg n).2 hn] at hob
  rcases h.1 n _ hob with rfl | ⟨b, k1, k2, k3⟩
  ·exact .inl rfl
  refine .inr ⟨b, k1, k2, ?_⟩
  have nofix : (∀ o, ¬ G.fix b o) → ∀ o, ¬ (G.shut ns heap).fix b o := by
   rintro hf o (h1 | ⟨m, hm, cs', j1, j2, _⟩)
   ·exact hf o h1
   ·have := own m _ hm cs' j1 j2
    rw [k2] at this
    simp at this; subst this; exact hn hm
  cases ob with
  | cells cs =>
    obtain ⟨f, cv, T, a1, a2, a3⟩ := k3
    refine ⟨nofix f, cv, T, a1, a2, ?_⟩
    intro k c x hc hx
    obtain ⟨b1, b2, b3⟩ := a3 k c x hc hx
    refine ⟨b1.shut, b2, ?_⟩
    split at b3
    ·exact room b3
    ·trivial
  | map es =>
    obtain ⟨mes, clock, a1, a2, a3, a4, a5⟩ := k3
    refine ⟨mes, clock, a1, a2, a3, a4, ?_⟩
    intro i e p hi hp
    obtain ⟨b1, b2, b3⟩ := a5 i e p hi hp
    refine ⟨b1.shut, b2.shut, ?_⟩
    split at b3
    ·exact room b3
    ·trivial
  | bld bs =>
    obtain ⟨f, p, v, a1, a2, a3⟩ := k3
    refine ⟨nofix f, p, v, a1, a2, ?_⟩
    rcases a3 with a3 | ⟨g, cap, cur, b1, b2, b3, b4⟩
    ·exact .inl a3
    ·refine .inr ⟨g, cap, cur, b1, b2, ?_, b4⟩
     rintro o (h1 | ⟨m, hm, cs', j1, j2, _⟩)
     ·exact b3 o h1
     ·have := own m _ hm cs' j1 j2
      rw [b2] at this; simp at this
  | siter s pos =>
    obtain ⟨f, s', a1, a2⟩ := k3
    exact ⟨nofix f, s', a1, a2⟩
  | gone => trivial
  | sblob => exact k3
  | loop ready =>
    obtain ⟨f, r, a1, a2⟩ := k3
    exact ⟨nofix f, r, a1, a2⟩
  | over id =>
    obtain ⟨f, r, a1, a2⟩ := k3
    exact ⟨nofix f, r, a1, a2⟩
/-- A row of the heap, read as a list. -/
theorem row_list {w : World} {G : GS} {heap : List PObj} (h : HR N w G heap) {ns : List Nat} {n sz len b cap : Nat} (hcap : len ≤ cap) {agg : Bool} {cs es : List PV} (hn : n ∈ ns) (hb : G.heap n = some b) (hc : heap[n]? = some (.cells cs)) (hsz : agg = true ∨ sz = 1)
  (he : rowEls sz agg cs len 0 = some es) : VR N w (G.shut ns heap).fix (G.shut ns heap).heap (.slice (some ⟨b, 0, none⟩) len cap) (.list false es) := by
 rcases h.1 n _ hc with hg | ⟨b', k1, k2, f, cv, T, a1, a2, a3⟩
 ·simp at hg
 have : b' = b := by rw [hb] at k1; cases k1; rfl
 subst this
 obtain ⟨e1, e2⟩ := rowEls_get he
 have hels : ∀ (i : Nat) (e : PV), es[i]? = some e → i * sz + sz ≤ cs.length ∧ e.cells.length = sz ∧ ∀ (j : Nat) (x : PV), e.cells[j]? = some x → ∃ y, cs[i * sz + j]? = some y ∧ x = dem y ∧ j < sz := by
  intro i e hi
  have := e2 i e hi
  rw [Nat.zero_add] at this
  unfold loadFrom at this
  split at this
  ·split at this
   ·rename_i hle
    simp only [Option.some.injEq] at this; subst this
    refine ⟨hle, by simp [PV.cells]; omega, ?_⟩
    intro j x hx
    simp only [PV.cells, List.getElem?_map, Option.map_eq_some_iff] at hx
    obtain ⟨y, hy, rfl⟩ := hx
    rw [List.getElem?_take] at hy
    split at hy
    ·rw [List.getElem?_drop] at hy
     exact ⟨y, hy, rfl, by assumption⟩
    ·simp at hy
   ·simp at this
  ·rename_i hagg
   have h1 : sz = 1 := by rcases hsz with h | h; exact absurd h (by simpa using hagg); exact h
   subst h1
   split at this
   ·rename_i y hy
    have hlt : i * 1 < cs.length := (List.getElem?_eq_some_iff.1 hy).1
    have hfl : y.flat = true := (a3 _ cv[i * 1] y (by simp [a2, hlt]) hy).2.1
    have hcp : e = dem y ∧ y.cells = [y] := by
     cases y <;> simp_all [cp, dem, PV.cells, PV.flat]
    obtain ⟨rfl, _⟩ := hcp
    have hdc : (dem y).cells = [dem y] := by cases y <;> simp_all [dem, PV.cells, PV.flat]
    refine ⟨by omega, by rw [hdc]; rfl, ?_⟩
    intro j x hx
    rw [hdc] at hx
    cases j with
    | zero => simp at hx; subst hx; exact ⟨y, hy, rfl, by omega⟩
    | succ j => simp at hx
   ·simp at this
 have hbound : ∀ k, k < len * sz → k < cs.length := by
  intro k hk
  have hs0 : 0 < sz := by
   rcases Nat.eq_zero_or_pos sz with h | h
   ·subst h; simp at hk
   ·exact h
  have hi : k / sz < len := by rw [Nat.div_lt_iff_lt_mul hs0]; exact hk
  have := (hels (k / sz) es[k / sz] (List.getElem?_eq_getElem (by omega))).1
  have h2 : k / sz * sz + k % sz = k := by rw [Nat.mul_comm]; exact Nat.div_add_mod k sz
  have h3 : k % sz < sz := Nat.mod_lt _ hs0
  omega
 refine .list false b' 0 len cap sz es (fun k => cv.getD k undef) e1 hcap ?_ ?_ ?_ ?_
 ·intro e he
  obtain ⟨i, hi⟩ := List.mem_iff_getElem?.1 he
  exact (hels i e hi).2.1
 ·intro e he x hx
  obtain ⟨i, hi⟩ := List.mem_iff_getElem?.1 he
  obtain ⟨j, hj⟩ := List.mem_iff_getElem?.1 hx
  obtain ⟨y, hy, rfl, _⟩ := (hels i e hi).2.2 j x hj
  rw [flat_dem]
  have hlt : i * sz + j < cs.length := (List.getElem?_eq_some_iff.1 hy).1
  exact (a3 _ cv[i * sz + j] y (by simp [a2, hlt]) hy).2.1
 ·intro k hk
  have hlt := hbound k hk
  refine ⟨?_, .inr ⟨n, hn, cs, hb, hc, by omega⟩⟩
  have : k < cv.size := by omega
  simp [World.cell?, a1, this]
 ·intro i e hi j x hx
  obtain ⟨y, hy, rfl, _⟩ := (hels i e hi).2.2 j x hx
  have hlt : i * sz + j < cs.length := (List.getElem?_eq_some_iff.1 hy).1
  have hlt2 : i * sz + j < cv.size := by omega
  have := (a3 _ cv[i * sz + j] y (by simp [hlt2]) hy).1
  simp only [Array.getD_eq_getD_getElem?, Array.getElem?_eq_getElem hlt2, Option.getD_some]
  exact this.dem.shut
theorem froz1_sound {w : World} {G : GS} {heap : List PObj} (h : HR N w G heap) {ns : List Nat} {v : Value} {p q : PV} (hns : ∀ m sz agg len, p = .rowp m sz agg len → m ∈ ns) (hv : VR N w G.fix G.heap v p) (hp : froz1 heap p = some q) :
  VR N w (G.shut ns heap).fix (G.shut ns heap).heap v q ∧ (p.flat = true → q.flat = true) ∧ (∀ es, q = .list true es → p = .list true es) := by
 by_cases hr : ∃ m sz agg len, p = .rowp m sz agg len
 ·obtain ⟨m, sz, agg, len, rfl⟩ := hr
  simp only [froz1] at hp
  split at hp
  ·rename_i hsz
   split at hp
   ·rename_i cs hh
    simp only [Option.map_eq_some_iff] at hp
    obtain ⟨es, hes, rfl⟩ := hp
    refine ⟨?_, fun _ => rfl, fun es e => by simp at e⟩
    cases hv with
    | rowp _ _ _ _ b cap hb' hcap _ => exact row_list h hcap (hns m sz agg len rfl) hb' hh hsz hes
   ·simp at hp
  ·simp at hp
 ·have : froz1 heap p = some p := by cases p <;> first | rfl | exact absurd ⟨_, _, _, _, rfl⟩ hr
  rw [this] at hp
  simp only [Option.some.injEq] at hp
  subst hp
  exact ⟨hv.shut, id, fun es e => e⟩
theorem frozs_get {heap : List PObj} : ∀ {ps qs : List PV}, frozs heap ps = some qs → qs.length = ps.length ∧ ∀ (i : Nat) (q : PV), qs[i]? = some q → ∃ p, ps[i]? = some p ∧ froz1 heap p = some q
 | [], qs, h => by simp [frozs] at h; subst h; simp
 | p :: ps, qs, h => by
   simp only [frozs, Option.bind_eq_some_iff, Option.map_eq_some_iff] at h
   obtain ⟨q, h1, qs', h2, rfl⟩ := h
   obtain ⟨k1, k2⟩ := frozs_get h2
   refine ⟨by simp [k1], ?_⟩
   intro i x hx
   cases i with
   | zero => simp at hx; subst hx; exact ⟨p, rfl, h1⟩
   | succ i => exact k2 i x (by simpa using hx)
theorem froz_sound {w : World} {G : GS} {heap : List PObj} (h : HR N w G heap) {ns : List Nat} {v : Value} {p q : PV} (hns : ∀ x ∈ p.cells, ∀ m sz agg len, x = .rowp m sz agg len → m ∈ ns) (hv : VR N w G.fix G.heap v p) (hp : froz heap p = some q) :
  VR N w (G.shut ns heap).fix (G.shut ns heap).heap v q := by
 by_cases ha : ∃ ps, p = .agg ps
 ·obtain ⟨ps, rfl⟩ := ha
  simp only [froz, Option.map_eq_some_iff] at hp
  obtain ⟨qs, hqs, rfl⟩ := hp
  obtain ⟨f1, f2⟩ := frozs_get hqs
  cases hv with
  | agg cs _ hlen hflat hown hcell =>
    refine .agg cs qs (by rw [f1]; exact hlen) ?_ ?_ ?_
    ·intro y hy
     obtain ⟨i, hi⟩ := List.mem_iff_getElem?.1 hy
     obtain ⟨x, hx, hxy⟩ := f2 i y hi
     have hlt : i < cs.size := by have := (List.getElem?_eq_some_iff.1 hx).1; omega
     exact (froz1_sound h (hns x (List.mem_of_getElem? hx)) (hcell i cs[i] x (by simp [hlt]) hx) hxy).2.1 (hflat x (List.mem_of_getElem? hx))
    ·intro i c es hc hy
     obtain ⟨x, hx, hxy⟩ := f2 i _ hy
     have := (froz1_sound h (hns x (List.mem_of_getElem? hx)) (hcell i c x hc hx) hxy).2.2 es rfl
     subst this
     exact hown i c es hc hx
    ·intro i c y hc hy
     obtain ⟨x, hx, hxy⟩ := f2 i y hy
     exact (froz1_sound h (hns x (List.mem_of_getElem? hx)) (hcell i c x hc hx) hxy).1
 ·have : froz heap p = some p := by cases p <;> first | rfl | exact absurd ⟨_, rfl⟩ ha
  rw [this] at hp
  simp only [Option.some.injEq] at hp
  subst hp
  exact hv.shut
mutual
theorem frz_flat (h : List PObj) : ∀ p : PV, (frz h p).flat = p.flat
 | .list _ _ | .agg _ | .tuple _ => rfl
 | .rowp n sz agg len => by
   simp only [frz]
   cases hf : froz1 h (.rowp n sz agg len) with
   | none => rfl
   | some q =>
     simp only [froz1] at hf
     split at hf
     ·split at hf
      ·simp only [Option.map_eq_some_iff] at hf
       obtain ⟨_, _, rfl⟩ := hf; rfl
      ·simp at hf
     ·simp at hf
 | .bool _ | .int _ _ | .str _ | .nils | .void | .nilptr | .cptr _ | .loc _ _ | .lptr _ _ _ | .ptr _ _ | .rows _ _ _ _ _ | .fresh _ _ _ _ | .map _ | .func _ _ _ | .nilfunc | .iface _ _ | .nilIface | .dead => rfl
end
theorem frzL_eq (h : List PObj) : ∀ l : List PV, frzL h l = l.map (frz h)
 | [] => rfl
 | x :: l => by simp [frzL, frzL_eq h l]
theorem nosInL_eq : ∀ l : List PV, nosInL l = l.flatMap nosIn
 | [] => rfl
 | x :: l => by simp [nosInL, nosInL_eq l]
theorem frz_cells (h : List PObj) (p : PV) (hp : ∀ x ∈ p.cells, x.flat = true) : (frz h p).cells = p.cells.map (frz h) := by
 cases p with
 | agg cs => simp [frz, PV.cells, frzL_eq]
 | tuple cs => simp [frz, PV.cells]
 | rowp n sz agg len =>
   have := frz_flat h (.rowp n sz agg len)
   revert this
   generalize hq : frz h (.rowp n sz agg len) = q
   intro this
   cases q <;> simp_all [PV.cells, PV.flat]
 | _ => simp [frz, PV.cells]
theorem nosIn_cell {p x : PV} (hx : x ∈ p.cells) : ∀ n ∈ nosIn x, n ∈ nosIn p := by
 intro n hn
 cases p <;> simp only [PV.cells, List.mem_singleton, List.not_mem_nil] at hx <;> first | (subst hx; exact hn) | skip
 simp only [nosIn, nosInL_eq]
 exact List.mem_flatMap.2 ⟨x, hx, hn⟩
theorem frz_own {h : List PObj} {p : PV} {es : List PV} (e : frz h p = .list true es) : ∃ es', p = .list true es' ∧ es = frzL h es' := by
 cases p <;> simp only [frz] at e
 case list o l => cases e; exact ⟨_, rfl, rfl⟩
 case rowp n sz agg len =>
  cases hf : froz1 h (.rowp n sz agg len) with
  | none => rw [hf] at e; cases e
  | some q =>
    rw [hf] at e
    simp only [Option.getD_some] at e
    subst e
    simp only [froz1] at hf
    split at hf
    ·split at hf
     ·simp only [Option.map_eq_some_iff] at hf
      obtain ⟨_, _, e⟩ := hf; cases e
     ·simp at hf
    ·simp at hf
 all_goals cases e
theorem frz_sound {w : World} {G : GS} {heap : List PObj} (h : HR N w G heap) {ns : List Nat} {v : Value} {p : PV} (hv : VR N w G.fix G.heap v p) (hns : ∀ n ∈ nosIn p, n ∈ ns) : VR N w (G.shut ns heap).fix (G.shut ns heap).heap v (frz heap p) := by
 induction hv with
 | list own b off len cap sz es cv hlen hcap hsz hflat hcell hvr ih =>
   simp only [frz, frzL_eq]
   refine .list own b off len cap sz (es.map (frz heap)) cv (by rw [List.length_map]; exact hlen) hcap ?_ ?_ (fun k hk => ⟨(hcell k hk).1, .inl (hcell k hk).2⟩) ?_
   ·intro e he
    obtain ⟨e', he', rfl⟩ := List.mem_map.1 he
    rw [frz_cells heap e' (hflat e' he'), List.length_map]
    exact hsz e' he'
   ·intro e he x hx
    obtain ⟨e', he', rfl⟩ := List.mem_map.1 he
    rw [frz_cells heap e' (hflat e' he')] at hx
    obtain ⟨y, hy, rfl⟩ := List.mem_map.1 hx
    rw [frz_flat]
    exact hflat e' he' y hy
   ·intro i e he j x hx
    rw [List.getElem?_map, Option.map_eq_some_iff] at he
    obtain ⟨e', he', rfl⟩ := he
    have hm := List.mem_of_getElem? he'
    rw [frz_cells heap e' (hflat e' hm), List.getElem?_map, Option.map_eq_some_iff] at hx
    obtain ⟨y, hy, rfl⟩ := hx
    refine ih i e' he' j y hy (fun n hn => hns n ?_)
    simp only [nosIn, nosInL_eq]
    exact List.mem_flatMap.2 ⟨e', hm, nosIn_cell (List.mem_of_getElem? hy) n hn⟩
 | agg cs ps hlen hflat hown hvr ih =>
   simp only [frz, frzL_eq]
   refine .agg cs _ (by rw [List.length_map]; exact hlen) ?_ ?_ ?_
   ·intro x hx
    obtain ⟨y, hy, rfl⟩ := List.mem_map.1 hx
    rw [frz_flat]
    exact hflat y hy
   ·intro i c es hc hp
    rw [List.getElem?_map, Option.map_eq_some_iff] at hp
    obtain ⟨y, hy, e⟩ := hp
    obtain ⟨es', rfl, _⟩ := frz_own e
    exact hown i c es' hc hy
   ·intro i c x hc hp
    rw [List.getElem?_map, Option.map_eq_some_iff] at hp
    obtain ⟨y, hy, rfl⟩ := hp
    refine ih i c y hc hy (fun n hn => hns n ?_)
    simp only [nosIn, nosInL_eq]
    exact List.mem_flatMap.2 ⟨y, List.mem_of_getElem? hy, hn⟩
 | tuple cs ps hlen hvr ih =>
   simp only [frz, frzL_eq]
   refine .tuple cs _ (by rw [List.length_map]; exact hlen) ?_
   intro i c x hc hp
   rw [List.getElem?_map, Option.map_eq_some_iff] at hp
   obtain ⟨y, hy, rfl⟩ := hp
   refine ih i c y hc hy (fun n hn => hns n ?_)
   simp only [nosIn, nosInL_eq]
   exact List.mem_flatMap.2 ⟨y, List.mem_of_getElem? hy, hn⟩
 | rowp n sz agg len b cap hb hcap hsh =>
   have hv : VR N w G.fix G.heap (.slice (some ⟨b, 0, none⟩) len cap) (.rowp n sz agg len) := .rowp n sz agg len b cap hb hcap hsh
   simp only [frz]
   cases hf : froz1 heap (.rowp n sz agg len) with
   | none => exact hv.shut
   | some q => exact (froz1_sound h (fun m _ _ _ e => by cases e; exact hns _ (by simp [nosIn])) hv hf).1
 | bool b => exact .bool b
 | int k n => exact .int k n
 | str s => exact .str s
 | nils own => exact .nils own
 | void own a cap => exact .void own a cap
 | nils' => exact .nils'
 | void' a cap => exact .void' a cap
 | nilptr => exact .nilptr
 | cptr b off ps cv hflat hcell hvr _ => exact (VR.cptr b off ps cv hflat hcell hvr).shut
 | ptr n off b h => exact (VR.ptr n off b h).shut
 | rows n sz agg off len b o cap m T h hcap ho hsh hm => exact (VR.rows n sz agg off len b o cap m T h hcap ho hsh hm).shut
 | mapn => exact .mapn
 | map n b h => exact (VR.map n b h).shut
 | func k fs cs pf pc h0 h1 h2 hf hc _ _ => exact (VR.func k fs cs pf pc h0 h1 h2 hf hc).shut
 | yield k n l y tmps caps h0 hl hr hlen hsz hc _ => exact (VR.yield k n l y tmps caps h0 hl hr hlen hsz hc).shut
 | nilfunc => exact .nilfunc
 | iface t v p h _ => exact (VR.iface t v p h).shut
 | nilIface => exact .nilIface
end
/-- Only the shared heap is owned. -/
structure HeapOnly (G : GS) : Prop where
 ow : ∀ b k, G.ow b = some k → k.isH = true
 box : ∀ g, G.box g = none
/-- What holds between calls. -/
structure Between (N : Nm) (w : World) (G : GS) (h : List PObj) : Prop where
 only : HeapOnly G
 fixlt : ∀ b o, G.fix b o → b < w.heap.size
 owlt : ∀ b k, G.ow b = some k → b < w.heap.size
 heap : HR N w G h
 hdom : ∀ n b, G.heap n = some b → n < h.length
/-- The room of a row that a call gives: no one holds it. -/
def Spare (w0 : World) (G0 : GS) (w : World) (G : GS) (v : Value) (es : List PV) : Prop :=
 match v with
 | .slice (some a) len cap => cap = len ∨
   ((w0.heap.size ≤ a.block ∨ G0.ow a.block ≠ none) ∧ ∃ sz cs T, (∀ e ∈ es, e.cells.length = sz) ∧ Live w a.block cs T ∧ a.off + cap * sz ≤ cs.size ∧
     0 < len ∧ ∀ o, a.off + len * sz ≤ o → ¬ G.fix a.block o)
 | _ => True
/-- Only an argument's room is owned. -/
structure OwnIn (N : Nm) (w : World) (G : GS) (own : Option Nat) (args : List PV) (vals : Array Value) : Prop where
 ow : ∀ b k, G.ow b = some k → ∃ i, own = some i ∧ k = .var i
 box : ∀ g, G.box g = none
 heap : ∀ n, G.heap n = none
 fixlt : ∀ b o, G.fix b o → b < w.heap.size
 owlt : ∀ b k, G.ow b = some k → b < w.heap.size
 tab : Tab N w G.fix
 size : vals.size = args.length
 vr : ∀ (i : Nat) (v : Value) (p : PV), vals[i]? = some v → args[i]? = some p → VR N w G.fix G.heap v p
 room : ∀ (i : Nat) (v : Value) (es : List PV), own = some i → vals[i]? = some v → args[i]? = some (.list true es) → Room w G (.var i) v es
/-- What a call comes to that keeps the room of what it gives. -/
def OwnOK (N : Nm) (P : Program) (cf : CallF) : Prop :=
 ∀ (k : Nat) (own : Option Nat) (args : List PV) (r : PV) (h' : List PObj), cf k (ownArgs own args) [] = some (r, h') → N.yl k = none ∧ ∀ (w : World) (G : GS) (vals : Array Value), OwnIn N w G own args vals →
   Calls P (N.fn k) vals w fun e w' => ∃ v G', e = .returned v ∧ VR N w' G'.fix G'.heap v r ∧ Ext w G w' G' ∧ (∀ b o, G'.fix b o → b < w'.heap.size) ∧ ∀ es, r = .list true es → Spare w G w' G' v es
/-- What a call of the library's function k comes to. -/
def PlainOK (N : Nm) (P : Program) (cf : CallF) : Prop :=
 ∀ (k : Nat) (args : List PV) (r : PV) (h h' : List PObj), cf k args h = some (r, h') → N.yl k = none ∧ ∀ (w : World) (G : GS) (vals : Array Value), Between N w G h → vals.size = args.length →
   (∀ (i : Nat) (v : Value) (p : PV), vals[i]? = some v → args[i]? = some p → VR N w G.fix G.heap v p) →
   Calls P (N.fn k) vals w fun e w' => ∃ v G', e = .returned v ∧ VR N w' G'.fix G'.heap v r ∧ Ext w G w' G' ∧ Between N w' G' h'
structure CallOK (N : Nm) (P : Program) (cf : CallF) : Prop where
 plain : PlainOK N P cf
 own : OwnOK N P cf
theorem Room.sub {w : World} {G G' : GS} {key : Key} {v : Value} {es : List PV} (h : Room w G key v es) (hf : G'.fix = G.fix) (ho : ∀ b, G.ow b = some key → G'.ow b = some key) : Room w G' key v es := by
 unfold Room at *
 split at h
 ·rename_i a len cap
  rcases h with h | ⟨h1, sz, cs, T, h2, h3, h4, h5, h6⟩
  ·exact .inl h
  ·exact .inr ⟨ho _ h1, sz, cs, T, h2, h3, h4, h5, by rw [hf]; exact h6⟩
 ·trivial
theorem HR.sub {N : Nm} {w : World} {G G' : GS} {heap : List PObj} (h : HR N w G heap) (hf : G'.fix = G.fix) (hh : G'.heap = G.heap) (ho : ∀ b k, k.isH = true → G.ow b = some k → G'.ow b = some k) : HR N w G' heap := by
 refine ⟨?_, by rw [hf]; exact h.2⟩
 intro n ob hob
 rcases h.1 n ob hob with rfl | ⟨b, h1, h2, h3⟩
 ·exact .inl rfl
 refine .inr ⟨b, by rw [hh]; exact h1, ho _ _ rfl h2, ?_⟩
 cases ob with
 | cells cs =>
   obtain ⟨f, cv, T, a1, a2, a3⟩ := h3
   refine ⟨by rw [hf]; exact f, cv, T, a1, a2, ?_⟩
   intro k c x hc hx
   obtain ⟨b1, b2, b3⟩ := a3 k c x hc hx
   refine ⟨by rw [hf, hh]; exact b1, b2, ?_⟩
   split at b3
   ·exact b3.sub hf (fun b => ho b _ rfl)
   ·trivial
 | map es =>
   obtain ⟨mes, clock, a1, a2, a3, a4, a5⟩ := h3
   refine ⟨mes, clock, a1, a2, a3, a4, ?_⟩
   intro i e p hi hp
   obtain ⟨b1, b2, b3⟩ := a5 i e p hi hp
   refine ⟨by rw [hf, hh]; exact b1, by rw [hf, hh]; exact b2, ?_⟩
   split at b3
   ·exact b3.sub hf (fun b => ho b _ rfl)
   ·trivial
 | bld bs =>
   obtain ⟨f, p, v, a1, a2, a3⟩ := h3
   refine ⟨by rw [hf]; exact f, p, v, a1, a2, ?_⟩
   rcases a3 with a3 | ⟨g, cap, cur, b1, b2, b3, b4⟩
   ·exact .inl a3
   ·exact .inr ⟨g, cap, cur, b1, ho _ _ rfl b2, by rw [hf]; exact b3, b4⟩
 | siter s pos =>
   obtain ⟨f, s', a1, a2⟩ := h3
   exact ⟨by rw [hf]; exact f, s', a1, a2⟩
 | gone => trivial
 | sblob => exact h3
 | loop ready =>
   obtain ⟨f, r, a1, a2⟩ := h3
   exact ⟨by rw [hf]; exact f, r, a1, a2⟩
 | over id =>
   obtain ⟨f, r, a1, a2⟩ := h3
   exact ⟨by rw [hf]; exact f, r, a1, a2⟩
def onlyH (ow : Nat → Option Key) (b : Nat) : Option Key :=
 match ow b with
 | some k => if k.isH then some k else none
 | none => none
theorem onlyH_some {ow : Nat → Option Key} {b : Nat} {k : Key} (h : onlyH ow b = some k) : ow b = some k ∧ k.isH = true := by
 unfold onlyH at h
 split at h
 ·split at h
  ·simp at h; subst h; exact ⟨by assumption, by assumption⟩
  ·simp at h
 ·simp at h
theorem onlyH_of {ow : Nat → Option Key} {b : Nat} {k : Key} (h : ow b = some k) (hk : k.isH = true) : onlyH ow b = some k := by
 simp [onlyH, h, hk]
/-- The functions of the library stand in the program. -/
def FnsOK (N : Nm) (P : Program) (L : Nat → Option PFunc) : Prop :=
 ∀ k f, L k = some f → ∃ fn, P.funcs[N.fn k]? = some fn ∧ fn.name ≠ "runtime.NumGoroutine" ∧ fn.body.isNone = false
section
variable {E : Env} {N : Nm} {w : World} {G : GS} {st : St} {a : Act} {vs : List Tmp} {ops : List Oper} {P : Program}
variable {o : Oper} {j : Nat} {next : Act → World → Prop} {Q : Exit → Act → World → Prop} {u : PV} {st1 : St}
theorem run_callFunc {L : Nat → Option PFunc} (hF : FnsOK N P L) {k : Nat} {f : PFunc} (hL : L k = some f) (args : Array Value) (w : World) : (callFunc (N.fn k) args).run P w = .ok (.enter (N.fn k) args) w := by
 obtain ⟨fn, h1, h2, h3⟩ := hF k f hL
 have h2' : (fn.name == "runtime.NumGoroutine") = false := by simpa using h2
 simp only [callFunc, Sem.run_bind, run_program, Result.andThen_ok, h1, h2', h3, Bool.false_eq_true, if_false, Sem.run_pure]
mutual
theorem frz_free (h : List PObj) : ∀ p : PV, refFree p = true → frz h p = p
 | .list _ es, hp => by simp only [frz]; rw [frzL_free h es (by simpa [refFree] using hp)]
 | .agg cs, hp => by simp only [frz]; rw [frzL_free h cs (by simpa [refFree] using hp)]
 | .tuple vs, hp => by simp only [frz]; rw [frzL_free h vs (by simpa [refFree] using hp)]
 | .rowp _ _ _ _, hp => by simp [refFree] at hp
 | .bool _, _ | .int _ _, _ | .str _, _ | .nils, _ | .void, _ | .nilptr, _ | .cptr _, _ | .loc _ _, _ | .lptr _ _ _, _ | .ptr _ _, _ | .rows _ _ _ _ _, _ | .fresh _ _ _ _, _ | .map _, _ | .func _ _ _, _ | .nilfunc, _ | .iface _ _, _ | .nilIface, _ | .dead, _ => rfl
theorem frzL_free (h : List PObj) : ∀ l : List PV, refFrees l = true → frzL h l = l
 | [], _ => rfl
 | x :: l, hp => by
   simp only [refFrees, Bool.and_eq_true] at hp
   simp only [frzL]
   rw [frz_free h x hp.1, frzL_free h l hp.2]
end
/-- The end of a call without the heap, for the caller; rows that it gives become lists. -/
theorem called_frz (nm : Names vs (lmap vs ops)) (ho : ops[j]? = some o) (hf : FI N w G st a vs (lmap vs ops)) {cf : CallF} (hcf : CallOK N P cf) {k : Nat} {args : List PV} {vals : Array Value} {r : PV} {h' : List PObj}
  (hsz : vals.size = args.length) (hv : ∀ (i : Nat) (v : Value) (p : PV), vals[i]? = some v → args[i]? = some p → VR N w G.fix G.heap v p) (hfree : refFrees args = true) (hc : cf k args [] = some (r, h')) (hr : refFree (frz h' r) = true)
  (hrun : (execOp a.eval o).run P w = .ok (.enter (N.fn k) vals) w) (hk : Goes N w G a st (dem (frz h' r)) vs ops j o next) : o.wp P a w next Q := by
 unfold Oper.wp
 rw [hrun]
 let Gc : GS := { fix := G.fix, heap := fun _ => none, box := fun _ => none, ow := fun _ => none }
 have hbt : Between N w Gc [] := ⟨⟨by intro b k h; simp [Gc] at h, fun _ => rfl⟩, hf.fixlt, by intro b k h; simp [Gc] at h, ⟨by intro n ob h; simp at h, hf.heap.2⟩, by intro n b h; simp [Gc] at h⟩
 refine ((hcf.plain k args r [] h' hc).2 w Gc vals hbt hsz (fun i v p h1 h2 => (hv i v p h1 h2).free (refFrees_get hfree p (List.mem_of_getElem? h2)))).mono ?_
 rintro e w' ⟨v, G2, rfl, hvr, he, hb2⟩
 let G' : GS := { G with fix := (G2.shut (nosIn r) h').fix }
 have hblock : ∀ b, b < w.heap.size → w'.heap[b]? = w.heap[b]? := fun b hb => he.same b hb rfl
 have hown : ∀ n b cs, G2.heap n = some b → h'[n]? = some (.cells cs) → G2.ow b ≠ none := by
  intro n b cs h1 h2
  rcases hb2.heap.1 n _ h2 with h3 | ⟨b', k1, k2, _⟩
  ·simp at h3
  rw [h1] at k1; cases k1
  rw [k2]; simp
 have hnew : ∀ b o, G'.fix b o → G.fix b o ∨ w.heap.size ≤ b := by
  rintro b o (h | ⟨n, _, cs, h1, h2, _⟩)
  ·rcases he.newfix b o h with h | h | h
   ·exact .inl h
   ·exact .inr h
   ·exact absurd rfl h
  ·exact .inr ((he.own b (hown n b cs h1 h2)).resolve_right (fun h => h rfl))
 have hlt : ∀ b o, G'.fix b o → b < w'.heap.size := by
  rintro b o (h | ⟨n, _, cs, h1, h2, _⟩)
  ·exact hb2.fixlt b o h
  ·cases hk : G2.ow b with
   | none => exact absurd hk (hown n b cs h1 h2)
   | some key => exact hb2.owlt b key hk
 have hext : Ext w G w' G' := by
  refine ⟨he.os, he.tape, he.output, he.size, fun b hlt _ => hblock b hlt, fun b o h => ⟨.inl (he.fix b o h).1, (he.fix b o h).2⟩, ?_, fun _ h => .inr h, fun _ _ h => h, he.shape, rfl⟩
  intro b o h
  rcases hnew b o h with h | h
  ·exact .inl h
  ·exact .inr (.inl h)
 have hkeep : Keep (fun _ => False) w G w' G' := by
  refine ⟨?_, fun _ _ h => h⟩
  intro b key hb' _
  have hlt' := hf.owlt _ _ hb'
  refine ⟨hb', hblock b hlt', ?_⟩
  intro o h
  rcases hnew b o h with h | h
  ·exact h
  ·omega
 have hf1 := hf.ext (G' := G') hext hkeep hf.gen (fun b key h => Nat.lt_of_lt_of_le (hf.owlt b key h) he.size) hlt
 have hvr' : VR N w' G'.fix G'.heap v (dem (frz h' r)) := ((frz_sound hb2.heap hvr (ns := nosIn r) (fun n hn => hn)).free hr).dem
 exact hk _ _ G' (hf1.put nm (cDst_ok ho) (SR.of_pure hvr' ((frz_sound hb2.heap hvr (ns := nosIn r) (fun n hn => hn)).cp_dem))) hext (put_size _ _ _)
theorem called_sound (nm : Names vs (lmap vs ops)) (ho : ops[j]? = some o) (hf : FI N w G st a vs (lmap vs ops)) {cf : CallF} (hcf : CallOK N P cf) {k : Nat} {args : List PV} {vals : Array Value} {r : PV} {h' : List PObj}
  (hsz : vals.size = args.length) (hv : ∀ (i : Nat) (v : Value) (p : PV), vals[i]? = some v → args[i]? = some p → VR N w G.fix G.heap v p) (hfree : refFrees args = true) (hc : cf k args [] = some (r, h')) (hr : refFree r = true)
  (hrun : (execOp a.eval o).run P w = .ok (.enter (N.fn k) vals) w) (hk : Goes N w G a st (dem r) vs ops j o next) : o.wp P a w next Q :=
 called_frz nm ho hf hcf hsz hv hfree hc (by rw [frz_free h' r hr]; exact hr) hrun (by rw [frz_free h' r hr]; exact hk)
theorem plainVs_get : ∀ {ps : List PV}, plainVs ps = true → ∀ p ∈ ps, plainV p = true
 | [], _, p, hp => by simp at hp
 | x :: xs, h, p, hp => by
   simp only [plainVs, Bool.and_eq_true] at h
   rcases List.mem_cons.1 hp with rfl | hp
   ·exact h.1
   ·exact plainVs_get h.2 p hp
/-- What is plain reads anywhere. -/
theorem VR.plain {N : Nm} {w w' : World} {fix fix' : Nat → Nat → Prop} {hp hp' : Nat → Option Nat} {v : Value} {p : PV} (h : VR N w fix hp v p) (hr : plainV p = true) : VR N w' fix' hp' v p := by
 induction h with
 | bool b => exact .bool b
 | int k n => exact .int k n
 | str s => exact .str s
 | agg cs ps hlen hflat hown _ ih => exact .agg cs ps hlen hflat hown (fun i c p hc hp => ih i c p hc hp (plainVs_get (by simpa [plainV] using hr) p (List.mem_of_getElem? hp)))
 | tuple cs ps hlen _ ih => exact .tuple cs ps hlen (fun i c p hc hp => ih i c p hc hp (plainVs_get (by simpa [plainV] using hr) p (List.mem_of_getElem? hp)))
 | _ => simp [plainV] at hr
theorem frozAll_get {heap : List PObj} : ∀ {ps qs : List PV}, frozAll heap ps = some qs → qs.length = ps.length ∧ ∀ (i : Nat) (q : PV), qs[i]? = some q → ∃ p, ps[i]? = some p ∧ froz heap p = some q
 | [], qs, h => by simp [frozAll] at h; subst h; simp
 | p :: ps, qs, h => by
   simp only [frozAll, Option.bind_eq_some_iff, Option.map_eq_some_iff] at h
   obtain ⟨q, h1, qs', h2, rfl⟩ := h
   obtain ⟨k1, k2⟩ := frozAll_get h2
   refine ⟨by simp [k1], ?_⟩
   intro i x hx
   cases i with
   | zero => simp at hx; subst hx; exact ⟨p, rfl, h1⟩
   | succ i => exact k2 i x (by simpa using hx)
/-- The end of a call to which rows of the heap are lent. -/
theorem called_lent (nm : Names vs (lmap vs ops)) (ho : ops[j]? = some o) (hf : FI N w G st a vs (lmap vs ops)) {cf : CallF} (hcf : CallOK N P cf) {k : Nat} {args args' : List PV} {vals : Array Value} {r : PV} {h' : List PObj}
  (hsz : vals.size = args.length) (hv : ∀ (i : Nat) (v : Value) (p : PV), vals[i]? = some v → args[i]? = some p → VR N w G.fix G.heap v p) (hl : frozAll st.heap args = some args') (hfree : refFrees args' = true) (hc : cf k args' [] = some (r, h')) (hr : plainV r = true)
  (hrun : (execOp a.eval o).run P w = .ok (.enter (N.fn k) vals) w) (hk : Goes N w G a st (dem r) vs ops j o next) : o.wp P a w next Q := by
 unfold Oper.wp
 rw [hrun]
 let ns := args.flatMap fun p => rowNos p.cells
 let Gc : GS := { fix := (G.shut ns st.heap).fix, heap := fun _ => none, box := fun _ => none, ow := fun _ => none }
 have hlt : ∀ b o, (G.shut ns st.heap).fix b o → b < w.heap.size := by
  rintro b o (h | ⟨n, _, cs, h1, h2, _⟩)
  ·exact hf.fixlt b o h
  ·rcases hf.heap.1 n _ h2 with h3 | ⟨b', k1, k2, _⟩
   ·simp at h3
   rw [h1] at k1; cases k1
   exact hf.owlt _ _ k2
 have hbt : Between N w Gc [] := ⟨⟨by intro b k h; simp [Gc] at h, fun _ => rfl⟩, hlt, by intro b k h; simp [Gc] at h, ⟨by intro n ob h; simp at h, ⟨fun t ht => ⟨.inl (hf.heap.2.1 t ht).1, (hf.heap.2.1 t ht).2⟩, hf.heap.2.2⟩⟩, by intro n b h; simp [Gc] at h⟩
 obtain ⟨l1, l2⟩ := frozAll_get hl
 refine ((hcf.plain k args' r [] h' hc).2 w Gc vals hbt (by rw [l1]; exact hsz) ?_).mono ?_
 ·intro i v q h1 h2
  obtain ⟨p, hp, hq⟩ := l2 i q h2
  refine VR.free (froz_sound hf.heap (ns := ns) ?_ (hv i v p h1 hp) hq) (refFrees_get hfree q (List.mem_of_getElem? h2))
  intro x hx m sz agg len e
  subst e
  exact List.mem_flatMap.2 ⟨p, List.mem_of_getElem? hp, rowNos_mem hx⟩
 rintro e w' ⟨v, G2, rfl, hvr, he, hb2⟩
 have hext : Ext w G w' G := ⟨he.os, he.tape, he.output, he.size, fun b hlt _ => he.same b hlt rfl, fun b o h => ⟨h, (he.fix b o (.inl h)).2⟩, fun _ _ h => .inl h, fun _ h => .inr h, fun _ _ h => h, he.shape, rfl⟩
 have hkeep : Keep (fun _ => False) w G w' G := ⟨fun b key hb' _ => ⟨hb', he.same b (hf.owlt _ _ hb') rfl, fun _ h => h⟩, fun _ _ h => h⟩
 have hf1 := hf.ext (G' := G) hext hkeep hf.gen (fun b key h => Nat.lt_of_lt_of_le (hf.owlt b key h) he.size) (fun b o h => Nat.lt_of_lt_of_le (hf.fixlt b o h) he.size)
 have hvr' : VR N w' G.fix G.heap v (dem r) := (hvr.plain hr).dem
 exact hk _ _ G (hf1.put nm (cDst_ok ho) (SR.of_pure hvr' hvr.cp_dem)) hext (put_size _ _ _)
/-- The end of a call with the heap, for the caller. -/
theorem called_heapG (hf : FI N w G st a vs (lmap vs ops)) {cf : CallF} (hcf : CallOK N P cf) {k : Nat} {args : List PV} {vals : Array Value} {r : PV} {h' : List PObj}
  (hsz : vals.size = args.length) (hv : ∀ (i : Nat) (v : Value) (p : PV), vals[i]? = some v → args[i]? = some p → VR N w G.fix G.heap v p) (hc : cf k args st.heap = some (r, h'))
  (hrun : (execOp a.eval o).run P w = .ok (.enter (N.fn k) vals) w) (hk : ∀ (v : Value) (w' : World) (G' : GS), FI N w' G' { st with heap := h' } a vs (lmap vs ops) → VR N w' G'.fix G'.heap v r → Ext w G w' G' → next (a.put o.dst v) w') : o.wp P a w next Q := by
 unfold Oper.wp
 rw [hrun]
 let Gc : GS := { fix := G.fix, heap := G.heap, box := fun _ => none, ow := onlyH G.ow }
 have hbt : Between N w Gc st.heap := ⟨⟨fun b k h => (onlyH_some h).2, fun _ => rfl⟩, hf.fixlt, fun b k h => hf.owlt b k (onlyH_some h).1, hf.heap.sub rfl rfl (fun b k hk h => onlyH_of h hk), hf.hdom⟩
 refine ((hcf.plain k args r st.heap h' hc).2 w Gc vals hbt hsz hv).mono ?_
 rintro e w' ⟨v, G2, rfl, hvr, he, hb2⟩
 let G' : GS := { fix := G2.fix, heap := G2.heap, box := G.box, ow := fun b => match G.ow b with | some k => if k.isH then G2.ow b else some k | none => G2.ow b, df := G.df }
 have hext : Ext w G w' G' := by
  refine ⟨he.os, he.tape, he.output, he.size, fun b hlt h => he.same b hlt (by simp [Gc, onlyH, h]), fun b o h => he.fix b o h, ?_, ?_, he.heap, he.shape, rfl⟩
  ·intro b o h
   rcases he.newfix b o h with h | h | h
   ·exact .inl h
   ·exact .inr (.inl h)
   ·refine .inr (.inr ?_)
    intro e
    apply h
    simp [Gc, onlyH, e]
  ·intro b h
   cases hb : G.ow b with
   | some k => exact .inr (by simp)
   | none =>
     simp only [G', hb] at h
     rcases he.own b h with h | h
     ·exact .inl h
     ·exact absurd (by simp [Gc, onlyH, hb]) h
 have hkeep : Keep (fun k => k.isH = true) w G w' G' := by
  refine ⟨?_, fun _ _ h => h⟩
  intro b key hb' hn
  have hlt' := hf.owlt _ _ hb'
  have hnone : Gc.ow b = none := by simp [Gc, onlyH, hb', hn]
  refine ⟨by simp [G', hb', hn], he.same b hlt' hnone, ?_⟩
  intro o h
  rcases he.newfix b o h with h | h | h
  ·exact h
  ·omega
  ·exact absurd hnone h
 have hheap : HR N w' G' h' := by
  refine hb2.heap.sub rfl rfl ?_
  intro b k hkH h
  cases hb : G.ow b with
  | none => simp only [G', hb]; exact h
  | some k0 =>
    by_cases hk0 : k0.isH = true
    ·simp only [G', hb, hk0, if_true]; exact h
    ·have hnone : Gc.ow b = none := by simp [Gc, onlyH, hb, hk0]
     have hlt := hf.owlt _ _ hb
     rcases he.own b (by rw [h]; simp) with h2 | h2
     ·omega
     ·exact absurd hnone h2
 have hf1 : FI N w' G' { st with heap := h' } a vs (lmap vs ops) := by
  refine ⟨hf.len, fun i t u h1 h2 => (hf.var i t u h1 h2).keep hext hkeep (by simp [Key.isH]) (by simp [Key.isH]), fun j t u h1 h2 => (hf.loc j t u h1 h2).keep hext hkeep (by simp [Key.isH]) (by simp [Key.isH]), hf.tv, hf.tl, (hf.defers.trans hext.df.symm), hf.gen, ?_, hb2.fixlt, hheap, hb2.hdom⟩
  intro b k h
  cases hb : G.ow b with
  | some k0 => exact Nat.lt_of_lt_of_le (hf.owlt _ _ hb) he.size
  | none =>
    simp only [G', hb] at h
    exact hb2.owlt _ _ h
 exact hk v w' G' hf1 hvr hext
theorem called_heap (nm : Names vs (lmap vs ops)) (ho : ops[j]? = some o) (hf : FI N w G st a vs (lmap vs ops)) {cf : CallF} (hcf : CallOK N P cf) {k : Nat} {args : List PV} {vals : Array Value} {r : PV} {h' : List PObj}
  (hsz : vals.size = args.length) (hv : ∀ (i : Nat) (v : Value) (p : PV), vals[i]? = some v → args[i]? = some p → VR N w G.fix G.heap v p) (hc : cf k args st.heap = some (r, h'))
  (hrun : (execOp a.eval o).run P w = .ok (.enter (N.fn k) vals) w) (hk : Goes N w G a { st with heap := h' } (dem r) vs ops j o next) : o.wp P a w next Q :=
 called_heapG hf hcf hsz hv hc hrun fun v w' G' hf1 hvr hext => hk _ _ G' (hf1.put nm (cDst_ok ho) (SR.of_pure hvr.dem hvr.cp_dem)) hext (put_size _ _ _)
/-- Rows become lists: only the ghosts turn. -/
theorem FI.freeze {lm : Nat → Option Tmp} (hf : FI N w G st a vs lm) (ns : List Nat) : FI N w (G.shut ns st.heap) { st with heap := gones ns st.heap } a vs lm ∧ Ext w G w (G.shut ns st.heap) := by
 have own : ∀ n b cs, G.heap n = some b → st.heap[n]? = some (.cells cs) → G.ow b = some (.hobj n) := by
  intro n b cs h1 h2
  rcases hf.heap.1 n _ h2 with h3 | ⟨b', k1, k2, _⟩
  ·simp at h3
  rw [h1] at k1; cases k1; exact k2
 have hext : Ext w G w (G.shut ns st.heap) := by
  refine ⟨rfl, rfl, rfl, Nat.le_refl _, fun _ _ _ => rfl, fun _ _ h => ⟨.inl h, rfl⟩, ?_, fun _ h => .inr h, fun _ _ h => h, ShapeLe.refl w, rfl⟩
  rintro b o (h | ⟨n, _, cs, h1, h2, _⟩)
  ·exact .inl h
  ·exact .inr (.inr (by rw [own n b cs h1 h2]; simp))
 have hkeep : Keep (fun k => k.isH = true) w G w (G.shut ns st.heap) := by
  refine ⟨?_, fun _ _ h => h⟩
  intro b key hb hn
  refine ⟨hb, rfl, ?_⟩
  rintro o (h | ⟨n, _, cs, h1, h2, _⟩)
  ·exact h
  ·rw [own n b cs h1 h2] at hb
   cases hb
   exact absurd rfl hn
 refine ⟨⟨hf.len, fun i t u h1 h2 => (hf.var i t u h1 h2).keep hext hkeep (by simp [Key.isH]) (by simp [Key.isH]), fun j t u h1 h2 => (hf.loc j t u h1 h2).keep hext hkeep (by simp [Key.isH]) (by simp [Key.isH]), hf.tv, hf.tl, hf.defers, hf.gen, hf.owlt, ?_, hf.heap.shutG (gones_get ns st.heap), ?_⟩, hext⟩
 ·rintro b o (h | ⟨n, _, cs, h1, h2, _⟩)
  ·exact hf.fixlt b o h
  ·exact hf.owlt _ _ (own n b cs h1 h2)
 ·intro n b h
  have := hf.hdom n b h
  simp only [gones_len]; exact this
theorem vals_of {xs : Array Operand} {us : List PV} (h1 : xs.toList.length = us.length) (h2 : ∀ (i : Nat) (x : Operand) (u : PV), xs.toList[i]? = some x → us[i]? = some u → VR N w G.fix G.heap (a.eval x) u ∧ cp u = some u) :
  (xs.map a.eval).size = us.length ∧ ∀ (i : Nat) (v : Value) (p : PV), (xs.map a.eval)[i]? = some v → us[i]? = some p → VR N w G.fix G.heap v p := by
 refine ⟨by simpa using h1, ?_⟩
 intro i v p hv hp
 simp only [Array.getElem?_map, Option.map_eq_some_iff] at hv
 obtain ⟨x, hx, rfl⟩ := hv
 exact (h2 i x p (by simpa using hx) hp).1
theorem pcall_sound {L : Nat → Option PFunc} (hF : FnsOK N P L) (hE : EnvOk E N) (nm : Names vs (lmap vs ops)) (ho : ops[j]? = some o) (hf : FI N w G st a vs (lmap vs ops)) {cf : CallF} (hcf : CallOK N P cf) (hcL : ∀ k args h r, cf k args h = some r → ∃ f, L k = some f)
  {f : FuncId} {k : Nat} {xs : Array Operand} {ts : Array TypeId} {pxs : List PX} (hop : o.op = .call { callee := .value (.func f), args := xs, argTypes := ts }) (hk' : E.inv f = some k) (hx : cxs E vs ops xs.toList = some pxs)
  (hs : opv cf (.pcall k pxs) st = some (u, st1)) (hk : Goes N w G a st1 u vs ops j o next) : o.wp P a w next Q := by
 simp only [opv] at hs
 split at hs
 ·rename_i us hus
  split at hs
  ·rename_i hfree
   split at hs
   ·rename_i r h' hc
    split at hs
    ·rename_i hr
     simp only [Option.some.injEq, Prod.mk.injEq] at hs
     obtain ⟨rfl, rfl⟩ := hs
     obtain ⟨h1, h2⟩ := rdAll_sound hE hf hx hus
     obtain ⟨g1, g2⟩ := vals_of (w := w) (G := G) h1 h2
     obtain ⟨pf, hL⟩ := hcL _ _ _ _ hc
     have hfn := hE.fn _ _ hk'
     refine called_sound nm ho hf hcf g1 g2 hfree hc hr ?_ hk
     have := run_callFunc hF hL (xs.map a.eval) w
     rw [hfn] at this
     rw [hfn]
     simp [execOp, hop, resolve, Act.eval, Deferred.ofValue, invoke]
     exact this
    ·simp at hs
   ·simp at hs
  ·simp at hs
 ·simp at hs
theorem pzcall_sound {L : Nat → Option PFunc} (hF : FnsOK N P L) (hE : EnvOk E N) (nm : Names vs (lmap vs ops)) (ho : ops[j]? = some o) (hf : FI N w G st a vs (lmap vs ops)) {cf : CallF} (hcf : CallOK N P cf) (hcL : ∀ k args h r, cf k args h = some r → ∃ f, L k = some f)
  {f : FuncId} {k : Nat} {xs : Array Operand} {ts : Array TypeId} {pxs : List PX} (hop : o.op = .call { callee := .value (.func f), args := xs, argTypes := ts }) (hk' : E.inv f = some k) (hx : cxs E vs ops xs.toList = some pxs)
  (hs : opv cf (.pzcall k pxs) st = some (u, st1)) (hk : Goes N w G a st1 u vs ops j o next) : o.wp P a w next Q := by
 simp only [opv] at hs
 split at hs
 ·rename_i us hus
  split at hs
  ·rename_i hfree
   split at hs
   ·rename_i r h' hc
    split at hs
    ·rename_i hr
     simp only [Option.some.injEq, Prod.mk.injEq] at hs
     obtain ⟨rfl, rfl⟩ := hs
     obtain ⟨h1, h2⟩ := rdAll_sound hE hf hx hus
     obtain ⟨g1, g2⟩ := vals_of (w := w) (G := G) h1 h2
     obtain ⟨pf, hL⟩ := hcL _ _ _ _ hc
     have hfn := hE.fn _ _ hk'
     refine called_frz nm ho hf hcf g1 g2 hfree hc hr ?_ hk
     have := run_callFunc hF hL (xs.map a.eval) w
     rw [hfn] at this
     rw [hfn]
     simp [execOp, hop, resolve, Act.eval, Deferred.ofValue, invoke]
     exact this
    ·simp at hs
   ·simp at hs
  ·simp at hs
 ·simp at hs
/-- A value is plain, or a row with its room. -/
theorem VR.cp_or {N : Nm} {w : World} {fix : Nat → Nat → Prop} {hp : Nat → Option Nat} {v : Value} {p : PV} (h : VR N w fix hp v p) : cp p = some p ∨ ∃ es, p = .list true es := by
 cases h with
 | nils o => cases o <;> simp [cp]
 | void o _ _ => cases o <;> simp [cp]
 | list o _ _ _ _ _ _ _ _ _ _ _ _ _ => cases o <;> simp [cp]
 | _ => exact .inl rfl
theorem cxs_get {E : Env} {vs : List Tmp} {ops : List Oper} : ∀ {xs : List Operand} {ps : List PX} {i : Nat} {p : PX}, cxs E vs ops xs = some ps → ps[i]? = some p → ∃ x, xs[i]? = some x ∧ cx E vs ops x = some p
 | [], ps, i, p, h, hp => by simp [cxs] at h; subst h; simp at hp
 | x :: xs, ps, i, p, h, hp => by
   simp only [cxs, Option.bind_eq_some_iff, Option.map_eq_some_iff] at h
   obtain ⟨q, h1, qs, h2, rfl⟩ := h
   cases i with
   | zero => simp at hp; subst hp; exact ⟨x, rfl, h1⟩
   | succ i =>
     have := cxs_get (i := i) h2 (by simpa using hp)
     simpa using this
/-- The block of a slice. -/
def blockOf : Value → Option Nat
 | .slice (some a) _ _ => some a.block
 | _ => none
/-- The end of a call that keeps the room of what it gives, for the caller. -/
theorem calledx_sound (nm : Names vs (lmap vs ops)) (ho : ops[j]? = some o) (hd : cDst vs o.dst ≠ .n) {G0 : GS} (he0 : Ext w G0 w G) (hf : FI N w G st a vs (lmap vs ops)) {cf : CallF} (hcf : CallOK N P cf) {k : Nat} {own : Option Nat} {args : List PV} {vals : Array Value} {r : PV} {h' : List PObj}
  (hsz : vals.size = args.length) (hv : ∀ (i : Nat) (v : Value) (p : PV), vals[i]? = some v → args[i]? = some p → VR N w G.fix G.heap v p) (hfree : refFrees args = true)
  (hroom : ∀ (i : Nat) (v : Value) (es : List PV), own = some i → vals[i]? = some v → args[i]? = some (.list true es) → Room w G (keyD (cDst vs o.dst) j) v es)
  (hc : cf k (ownArgs own args) [] = some (r, h')) (hr : refFree r = true)
  (hrun : (execOp a.eval o).run P w = .ok (.enter (N.fn k) vals) w) (hk : Goes N w G0 a st r vs ops j o next) : o.wp P a w next Q := by
 classical
 unfold Oper.wp
 rw [hrun]
 let key := keyD (cDst vs o.dst) j
 let Gc : GS := { fix := G.fix, heap := fun _ => none, box := fun _ => none, ow := fun b => own.bind fun i => if vals[i]?.bind blockOf = some b ∧ G.ow b = some key then some (.var i) else none }
 have hGc : ∀ b k, Gc.ow b = some k → G.ow b = some key ∧ ∃ i, own = some i ∧ k = .var i := by
  intro b k h
  simp only [Gc, Option.bind_eq_some_iff] at h
  obtain ⟨i, hi, h⟩ := h
  split at h
  ·rename_i hb
   simp only [Option.some.injEq] at h
   exact ⟨hb.2, i, hi, h.symm⟩
  ·simp at h
 have hin : OwnIn N w Gc own args vals := by
  refine ⟨fun b k h => (hGc b k h).2, fun _ => rfl, fun _ => rfl, hf.fixlt, fun b k h => hf.owlt _ _ (hGc b k h).1, hf.heap.2, hsz, fun i v p h1 h2 => (hv i v p h1 h2).free (refFrees_get hfree p (List.mem_of_getElem? h2)), ?_⟩
  intro i v es hi hvi hes
  have h := hroom i v es hi hvi hes
  unfold Room at *
  split at h
  ·rename_i a' len cap
   rcases h with h | ⟨h1, h2⟩
   ·exact .inl h
   ·refine .inr ⟨?_, h2⟩
    simp only [Gc, hi, hvi, Option.bind_some, blockOf, true_and]
    rw [if_pos (show G.ow a'.block = some key from h1)]
  ·trivial
 refine ((hcf.own k own args r h' hc).2 w Gc vals hin).mono ?_
 rintro e w' ⟨v, G2, rfl, hvr, he, hfx, hsp⟩
 let G' : GS := { G with fix := G2.fix, ow := fun b => if (∃ es, r = .list true es) ∧ blockOf v = some b ∧ (w.heap.size ≤ b ∨ Gc.ow b ≠ none) ∧ b < w'.heap.size then some key else G.ow b }
 have hnone : ∀ b k, G.ow b = some k → k ≠ key → Gc.ow b = none := by
  intro b k h hn
  cases hx : Gc.ow b with
  | none => rfl
  | some k' =>
    have := (hGc b k' hx).1
    rw [h] at this
    simp only [Option.some.injEq] at this
    exact absurd this hn
 have hnone' : ∀ b, G.ow b = none → Gc.ow b = none := by
  intro b h
  cases hx : Gc.ow b with
  | none => rfl
  | some k' => have := (hGc b k' hx).1; rw [h] at this; simp at this
 have hext : Ext w G w' G' := by
  refine ⟨he.os, he.tape, he.output, he.size, fun b hlt h => he.same b hlt (hnone' b h), fun b o h => he.fix b o h, ?_, ?_, fun _ _ h => h, he.shape, rfl⟩
  ·intro b o h
   rcases he.newfix b o h with h | h | h
   ·exact .inl h
   ·exact .inr (.inl h)
   ·exact .inr (.inr fun e => h (hnone' b e))
  ·intro b h
   simp only [G'] at h
   split at h
   ·rename_i hb
    rcases hb.2.2.1 with h1 | h1
    ·exact .inl h1
    ·exact .inr fun e => h1 (hnone' b e)
   ·exact .inr h
 have hkeep : Keep (fun k => k = key) w G w' G' := by
  refine ⟨?_, fun _ _ h => h⟩
  intro b k hb' hn
  have hlt' := hf.owlt _ _ hb'
  have h0 := hnone b k hb' hn
  refine ⟨?_, he.same b hlt' h0, ?_⟩
  ·simp only [G']
   rw [if_neg]
   ·exact hb'
   ·rintro ⟨_, _, h1 | h1, _⟩
    ·omega
    ·exact h1 h0
  ·intro o h
   rcases he.newfix b o h with h | h | h
   ·exact h
   ·omega
   ·exact absurd h0 h
 have how : ∀ b k, G'.ow b = some k → b < w'.heap.size := by
  intro b k h
  simp only [G'] at h
  split at h
  ·rename_i hb; exact hb.2.2.2
  ·exact Nat.lt_of_lt_of_le (hf.owlt _ _ h) he.size
 have hvr' : VR N w' G'.fix G'.heap v r := hvr.free hr
 have hsr : SR N w' G' key v r := by
  rcases hvr'.cp_or with h | ⟨es, rfl⟩
  ·exact SR.of_pure hvr' h
  ·refine ⟨hvr', ?_⟩
   have h := hsp es rfl
   unfold Room
   unfold Spare at h
   split at h
   ·rename_i a' len cap
    rcases h with h | ⟨h1, sz, cs, T, h2, h3, h4⟩
    ·exact .inl h
    ·refine .inr ⟨?_, sz, cs, T, h2, h3, h4⟩
     simp only [G']
     rw [if_pos]
     exact ⟨⟨es, rfl⟩, rfl, h1, let ⟨fz, h5, _⟩ := h3; (Array.getElem?_eq_some_iff.1 h5).1⟩
   ·rename_i hx
    split
    ·rename_i a' len cap; exact absurd rfl (hx _ _ _)
    ·trivial
 exact hk _ _ G' (hf.extDst nm (cDst_ok ho) hd hext hkeep (fun g b h => hf.gen g b h) how hfx rfl hsr) (he0.trans hext) (put_size _ _ _)
theorem pcallx_sound {L : Nat → Option PFunc} (hF : FnsOK N P L) (hE : EnvOk E N) (nm : Names vs (lmap vs ops)) (ho : ops[j]? = some o) (hd : cDst vs o.dst ≠ .n) (hf : FI N w G st a vs (lmap vs ops)) {cf : CallF} (hcf : CallOK N P cf) (hcL : ∀ k args h r, cf k args h = some r → ∃ f, L k = some f)
  {f : FuncId} {k : Nat} {xs : Array Operand} {ts : Array TypeId} {pxs : List PX} {own : Option Nat} (hop : o.op = .call { callee := .value (.func f), args := xs, argTypes := ts }) (hk' : E.inv f = some k) (hx : cxs E vs ops xs.toList = some pxs)
  (hs : opv cf (.pcallx k pxs own) st = some (u, st1)) (hk : Goes N w G a st1 u vs ops j o next) : o.wp P a w next Q := by
 have hrun : ∀ {args : List PV} {h : List PObj} {r}, cf k args h = some r → (execOp a.eval o).run P w = .ok (.enter (N.fn k) (xs.map a.eval)) w := by
  intro args h r hc
  obtain ⟨pf, hL⟩ := hcL _ _ _ _ hc
  have hfn := hE.fn _ _ hk'
  have := run_callFunc hF hL (xs.map a.eval) w
  rw [hfn] at this
  rw [hfn]
  simp [execOp, hop, resolve, Act.eval, Deferred.ofValue, invoke]
  exact this
 simp only [opv] at hs
 split at hs
 ·split at hs
  ·rename_i us hus
   split at hs
   ·rename_i hfree
    split at hs
    ·rename_i r h' hc
     split at hs
     ·rename_i hr
      simp only [Option.some.injEq, Prod.mk.injEq] at hs
      obtain ⟨rfl, rfl⟩ := hs
      obtain ⟨h1, h2⟩ := rdAll_sound hE hf hx hus
      obtain ⟨g1, g2⟩ := vals_of (w := w) (G := G) h1 h2
      exact calledx_sound nm ho hd (Ext.refl _ _) hf hcf g1 g2 hfree (by intro i v es h; simp at h) hc hr (hrun hc) hk
     ·simp at hs
    ·simp at hs
   ·simp at hs
  ·simp at hs
 ·rename_i i
  split at hs
  ·rename_i v0 st2 us ht hus
   split at hs
   ·rename_i hfree
    split at hs
    ·rename_i r h' hc
     split at hs
     ·rename_i hr
      simp only [Option.some.injEq, Prod.mk.injEq] at hs
      obtain ⟨rfl, rfl⟩ := hs
      simp only [Option.bind_eq_some_iff] at ht
      obtain ⟨px, hpx, ht⟩ := ht
      obtain ⟨h1, h2⟩ := rdAll_sound hE hf hx hus
      obtain ⟨g1, g2⟩ := vals_of (w := w) (G := G) h1 h2
      obtain ⟨x, hx1, hx2⟩ := cxs_get hx hpx
      obtain ⟨G', k1, k2, k3, k4, k5, k6, k7, _⟩ := tk_sound hE hx2 hf ht (keyD (cDst vs o.dst) j)
      refine calledx_sound nm ho hd k2 k1 hcf (by rw [List.length_set]; exact g1) ?_ hfree.1 ?_ hc hr (hrun hc) hk
      ·intro i' v p hv hp
       rw [k4, k5]
       rw [List.getElem?_set] at hp
       split at hp
       ·rename_i he
        subst he
        split at hp
        ·simp only [Option.some.injEq] at hp
         subst hp
         simp only [Array.getElem?_map, Option.map_eq_some_iff] at hv
         obtain ⟨x', hx', rfl⟩ := hv
         have : x' = x := by rw [← Array.getElem?_toList, hx1] at hx'; simpa using hx'.symm
         subst this
         exact k6
        ·simp at hp
       ·exact g2 i' v p hv hp
      ·intro i' v es hi hv hes
       simp only [Option.some.injEq] at hi
       subst hi
       rw [List.getElem?_set] at hes
       simp only [if_true, hfree.2, Option.some.injEq] at hes
       subst hes
       simp only [Array.getElem?_map, Option.map_eq_some_iff] at hv
       obtain ⟨x', hx', rfl⟩ := hv
       have : x' = x := by rw [← Array.getElem?_toList, hx1] at hx'; simpa using hx'.symm
       subst this
       exact k7
     ·simp at hs
    ·simp at hs
   ·simp at hs
  ·simp at hs
theorem callv_sound {L : Nat → Option PFunc} (hF : FnsOK N P L) (hE : EnvOk E N) (nm : Names vs (lmap vs ops)) (ho : ops[j]? = some o) (hf : FI N w G st a vs (lmap vs ops)) {cf : CallF} (hcf : CallOK N P cf) (hcL : ∀ k args h r, cf k args h = some r → ∃ f, L k = some f)
  {t : Tmp} {px : PX} {xs : Array Operand} {ts : Array TypeId} {pxs : List PX} (hop : o.op = .call { callee := .value (.tmp t), args := xs, argTypes := ts }) (hpx : cx E vs ops (.tmp t) = some px) (hx : cxs E vs ops xs.toList = some pxs)
  (hs : opv cf (.callv px pxs) st = some (u, st1)) (hk : Goes N w G a st1 u vs ops j o next) : o.wp P a w next Q := by
 simp only [opv] at hs
 split at hs
 ·rename_i k first captured us hfv hus
  split at hs
  ·rename_i hfree
   split at hs
   ·rename_i r h' hc
    split at hs
    ·rename_i hr
     simp only [Option.some.injEq, Prod.mk.injEq] at hs
     obtain ⟨rfl, rfl⟩ := hs
     obtain ⟨h1, h2⟩ := rdAll_sound hE hf hx hus
     obtain ⟨g1, g2⟩ := vals_of (w := w) (G := G) h1 h2
     obtain ⟨pf, hL⟩ := hcL _ _ _ _ hc
     have hfun := (rd_sound hE hpx hf hfv).1
     generalize hv : a.eval (.tmp t) = v at hfun
     cases hfun with
     | yield _ _ _ _ _ _ hy => rw [(hcf.plain _ _ _ _ _ hc).1] at hy; simp at hy
     | func _ fs cs _ _ _ e1 e2 hfs hcs =>
       refine called_sound (vals := fs ++ xs.map a.eval ++ cs) nm ho hf hcf (by simp [e1, e2]; simpa using h1) ?_ hfree hc hr ?_ hk
       ·intro i v p hv' hp
        by_cases hi : i < fs.size
        ·rw [Array.append_assoc, Array.getElem?_append_left hi] at hv'
         rw [List.append_assoc, List.getElem?_append_left (by omega)] at hp
         exact hfs i v p hv' hp
        ·rw [Array.append_assoc, Array.getElem?_append_right (by omega)] at hv'
         rw [List.append_assoc, List.getElem?_append_right (by omega), ← e1] at hp
         by_cases hi2 : i - fs.size < (xs.map a.eval).size
         ·rw [Array.getElem?_append_left hi2] at hv'
          rw [List.getElem?_append_left (by omega)] at hp
          exact g2 _ v p hv' hp
         ·rw [Array.getElem?_append_right (by omega)] at hv'
          rw [List.getElem?_append_right (by omega), ← g1] at hp
          exact hcs _ v p hv' hp
       ·have := run_callFunc hF hL (fs ++ xs.map a.eval ++ cs) w
        simp only [execOp, hop, resolve, Sem.run_bind, hv, Deferred.ofValue, Sem.run_pure, Result.andThen_ok, invoke]
        exact this
    ·simp at hs
   ·simp at hs
  ·simp at hs
 ·simp at hs
theorem hcall_sound {L : Nat → Option PFunc} (hF : FnsOK N P L) (hE : EnvOk E N) (nm : Names vs (lmap vs ops)) (ho : ops[j]? = some o) (hf : FI N w G st a vs (lmap vs ops)) {cf : CallF} (hcf : CallOK N P cf) (hcL : ∀ k args h r, cf k args h = some r → ∃ f, L k = some f)
  {f : FuncId} {k : Nat} {xs : Array Operand} {ts : Array TypeId} {pxs : List PX} (hop : o.op = .call { callee := .value (.func f), args := xs, argTypes := ts }) (hk' : E.inv f = some k) (hx : cxs E vs ops xs.toList = some pxs)
  (hs : hopv cf (.call k pxs) st = some (u, st1)) (hk : Goes N w G a st1 u vs ops j o next) : o.wp P a w next Q := by
 simp only [hopv, Option.bind_eq_some_iff, Option.map_eq_some_iff, Prod.mk.injEq] at hs
 obtain ⟨us, hus, ⟨r, h'⟩, hc, rfl, rfl⟩ := hs
 obtain ⟨h1, h2⟩ := rdAll_sound hE hf hx hus
 obtain ⟨g1, g2⟩ := vals_of (w := w) (G := G) h1 h2
 obtain ⟨pf, hL⟩ := hcL _ _ _ _ hc
 have hfn := hE.fn _ _ hk'
 refine called_heap nm ho hf hcf g1 g2 hc ?_ hk
 have := run_callFunc hF hL (xs.map a.eval) w
 rw [hfn] at this
 rw [hfn]
 simp [execOp, hop, resolve, Act.eval, Deferred.ofValue, invoke]
 exact this
theorem zcall_sound {L : Nat → Option PFunc} (hF : FnsOK N P L) (hE : EnvOk E N) (nm : Names vs (lmap vs ops)) (ho : ops[j]? = some o) (hf : FI N w G st a vs (lmap vs ops)) {cf : CallF} (hcf : CallOK N P cf) (hcL : ∀ k args h r, cf k args h = some r → ∃ f, L k = some f)
  {f : FuncId} {k : Nat} {xs : Array Operand} {ts : Array TypeId} {pxs : List PX} (hop : o.op = .call { callee := .value (.func f), args := xs, argTypes := ts }) (hk' : E.inv f = some k) (hx : cxs E vs ops xs.toList = some pxs)
  (hs : hopv cf (.zcall k pxs) st = some (u, st1)) (hk : Goes N w G a st1 u vs ops j o next) : o.wp P a w next Q := by
 simp only [hopv, Option.bind_eq_some_iff] at hs
 obtain ⟨us, hus, hs⟩ := hs
 split at hs
 ·rename_i hfree
  simp only [Option.bind_eq_some_iff] at hs
  obtain ⟨⟨r, h'⟩, hc, hs⟩ := hs
  split at hs
  ·rename_i hr
   simp only [Option.some.injEq, Prod.mk.injEq] at hs
   obtain ⟨rfl, rfl⟩ := hs
   obtain ⟨h1, h2⟩ := rdAll_sound hE hf hx hus
   obtain ⟨g1, g2⟩ := vals_of (w := w) (G := G) h1 h2
   obtain ⟨pf, hL⟩ := hcL _ _ _ _ hc
   have hfn := hE.fn _ _ hk'
   obtain ⟨hf1, hx1⟩ := hf.freeze (nosInL us)
   rw [frzL_eq] at hc hfree
   refine called_frz nm ho hf1 hcf (vals := xs.map a.eval) (by rw [List.length_map]; exact g1) ?_ hfree hc hr ?_ fun a' w' G2 k1 k2 k3 => hk a' w' G2 k1 (hx1.trans k2) k3
   ·intro i v p hv hp
    rw [List.getElem?_map, Option.map_eq_some_iff] at hp
    obtain ⟨q, hq, rfl⟩ := hp
    refine frz_sound hf.heap (g2 i v q hv hq) (fun n hn => ?_)
    rw [nosInL_eq]
    exact List.mem_flatMap.2 ⟨q, List.mem_of_getElem? hq, hn⟩
   ·have := run_callFunc hF hL (xs.map a.eval) w
    rw [hfn] at this
    rw [hfn]
    simp [execOp, hop, resolve, Act.eval, Deferred.ofValue, invoke]
    exact this
  ·simp at hs
 ·simp at hs
theorem lcall_sound {L : Nat → Option PFunc} (hF : FnsOK N P L) (hE : EnvOk E N) (nm : Names vs (lmap vs ops)) (ho : ops[j]? = some o) (hf : FI N w G st a vs (lmap vs ops)) {cf : CallF} (hcf : CallOK N P cf) (hcL : ∀ k args h r, cf k args h = some r → ∃ f, L k = some f)
  {f : FuncId} {k : Nat} {xs : Array Operand} {ts : Array TypeId} {pxs : List PX} (hop : o.op = .call { callee := .value (.func f), args := xs, argTypes := ts }) (hk' : E.inv f = some k) (hx : cxs E vs ops xs.toList = some pxs)
  (hs : hopv cf (.lcall k pxs) st = some (u, st1)) (hk : Goes N w G a st1 u vs ops j o next) : o.wp P a w next Q := by
 simp only [hopv, lendTo, Option.bind_eq_some_iff] at hs
 obtain ⟨us, hus, ws, hws, hs⟩ := hs
 split at hs
 ·rename_i hfree
  simp only [Option.bind_eq_some_iff] at hs
  obtain ⟨⟨r, h'⟩, hc, hs⟩ := hs
  split at hs
  ·rename_i hr
   simp only [Option.some.injEq, Prod.mk.injEq] at hs
   obtain ⟨rfl, rfl⟩ := hs
   obtain ⟨h1, h2⟩ := rdAll_sound hE hf hx hus
   obtain ⟨g1, g2⟩ := vals_of (w := w) (G := G) h1 h2
   obtain ⟨pf, hL⟩ := hcL _ _ _ _ hc
   have hfn := hE.fn _ _ hk'
   refine called_lent nm ho hf hcf g1 g2 hws hfree hc hr ?_ hk
   have := run_callFunc hF hL (xs.map a.eval) w
   rw [hfn] at this
   rw [hfn]
   simp [execOp, hop, resolve, Act.eval, Deferred.ofValue, invoke]
   exact this
  ·simp at hs
 ·simp at hs
theorem wrapnil (T : TypeId) (ad : Addr) (a b : String) : Builtin.ssaWrapNilChk_ #[T] T #[.pointer (some ad), strVal a, strVal b] = pure (.pointer (some ad)) := rfl
theorem run_method {T e : TypeId} {m : Method} {i : TypeInfo} {f : FuncId} {pr : Bool} {v r : Value} {name : String} (hi : P.info? T = some i) (hm : i.methods.find? (·.name == name) = some m) (hp : m.path.isEmpty = true) (hfn : m.func = some (f, pr))
  (hu : P.underlying T = some (.pointer e)) (hr : (pr = true ∧ r = v) ∨ (pr = false ∧ ∃ ad, v = .pointer (some ad) ∧ (loadVar e ad).run P w = .ok r w)) (n : Nat) : (method (n + 1) T v name).run P w = .ok (f, r) w := by
 have hp' : m.path.toList = [] := by simpa using hp
 have hti := run_typeInfo w hi
 have hun := run_underlying hu w
 simp only [method, Sem.run_bind, hti, Result.andThen_ok, hm, hp', follow, Sem.run_pure, hfn, hp, if_true]
 rcases hr with ⟨rfl, rfl⟩ | ⟨rfl, ad, rfl, hl⟩
 ·simp only [receiverAt, Sem.run_bind, hun, Result.andThen_ok, Place.get, Sem.run_pure]
 ·simp only [receiverAt, Sem.run_bind, hun, Result.andThen_ok, Place.get, Sem.run_pure, wrapnil, asAddr, hl]
theorem mTab_get {E : Env} {name : String} {t : Nat} {r : Nat × Option (Nat × Bool)} : ∀ {Ts : List TypeId}, tabAt t (mTab E name Ts) = some r → ∃ T i, idxIn T E.pt 0 = some i ∧ t = i + 1 ∧ mOf E name T = some r
 | [], h => by simp [mTab, tabAt] at h
 | T :: Ts, h => by
   unfold mTab at h
   split at h
   ·rename_i i q hi hq
    unfold tabAt at h
    split at h
    ·rename_i e
     simp only [Option.some.injEq] at h; subst h
     exact ⟨T, i, hi, e.symm, hq⟩
    ·exact mTab_get h
   ·exact mTab_get h
theorem icall_sound {L : Nat → Option PFunc} (hF : FnsOK N P L) (hE : EnvOk E N) (hP : E.P = P) (nm : Names vs (lmap vs ops)) (ho : ops[j]? = some o) (hf : FI N w G st a vs (lmap vs ops)) {cf : CallF} (hcf : CallOK N P cf) (hcL : ∀ k args h r, cf k args h = some r → ∃ f, L k = some f)
  {name : String} {x : Operand} {px : PX} {xs : Array Operand} {ts : Array TypeId} {pxs : List PX} (hop : o.op = .call { callee := .invoke x name, args := xs, argTypes := ts }) (hpx : cx E vs ops x = some px) (hx : cxs E vs ops xs.toList = some pxs)
  (hs : hopv cf (.icall (mTab E name E.pt) px pxs) st = some (u, st1)) (hk : Goes N w G a st1 u vs ops j o next) : o.wp P a w next Q := by
 subst hP
 simp only [hopv, Option.bind_eq_some_iff, Option.map_eq_some_iff, Prod.mk.injEq] at hs
 obtain ⟨⟨k, rv⟩, hm, us, hus, ⟨r, h'⟩, hc, rfl, rfl⟩ := hs
 unfold methOf at hm
 split at hm
 ·rename_i t v hp
  simp only [Option.bind_eq_some_iff, Option.map_eq_some_iff, Prod.mk.injEq] at hm
  obtain ⟨⟨k', d⟩, htab, rv', hrv, rfl, rfl⟩ := hm
  obtain ⟨T, i, hi, rfl, hmo⟩ := mTab_get htab
  have ht := hE.pt T i hi
  have hv := (rd_sound hE hpx hf hp).1
  obtain ⟨h1, h2⟩ := rdAll_sound hE hf hx hus
  obtain ⟨g1, g2⟩ := vals_of (w := w) (G := G) h1 h2
  obtain ⟨pf, hL⟩ := hcL _ _ _ _ hc
  generalize hev : a.eval x = z at hv
  cases hv with
  | iface _ v0 _ hv =>
    obtain ⟨f, pr, m, ti, e, hfk, k1, k2, k3, k4, k5, rr, k6, k7⟩ : ∃ (f : FuncId) (pr : Bool) (m : Method) (ti : TypeInfo) (e : TypeId), N.fn k' = f ∧ E.P.info? T = some ti ∧ ti.methods.find? (·.name == name) = some m ∧ m.path.isEmpty = true ∧ m.func = some (f, pr) ∧ E.P.underlying T = some (.pointer e) ∧
      ∃ r : Value, ((pr = true ∧ r = v0) ∨ (pr = false ∧ ∃ ad, v0 = .pointer (some ad) ∧ (loadVar e ad).run E.P w = .ok r w)) ∧ VR N w G.fix G.heap r rv' := by
     unfold mOf at hmo
     split at hmo
     ·rename_i m hmm
      simp only [Option.bind_eq_some_iff] at hmm
      obtain ⟨ti, a1, a2⟩ := hmm
      split at hmo
      ·rename_i a3
       split at hmo
       ·rename_i f e a4 a5
        simp only [Option.map_eq_some_iff, Prod.mk.injEq] at hmo
        obtain ⟨k0, a6, rfl, rfl⟩ := hmo
        simp only [recvOf, Option.some.injEq] at hrv
        subst hrv
        exact ⟨f, true, m, ti, e, hE.fn _ _ a6, a1, a2, a3, a4, a5, v0, .inl ⟨rfl, rfl⟩, hv.dem⟩
       ·rename_i f e a4 a5
        simp only [Option.bind_eq_some_iff, Option.map_eq_some_iff, Prod.mk.injEq] at hmo
        obtain ⟨k0, a6, n, a7, rfl, rfl⟩ := hmo
        simp only [recvOf] at hrv
        split at hrv
        ·rename_i mm off
         simp only [Option.bind_eq_some_iff] at hrv
         obtain ⟨cs, hg, hld⟩ := hrv
         cases hv with
         | ptr _ _ b hb =>
           have hn0 : n ≠ 0 := by obtain ⟨_, _, _, _, h, _⟩ := info_underlying a7; exact h
           obtain ⟨ho1, ho2, cv, TT, hh, hl, hcc⟩ := obj_open hf hg hb
           obtain ⟨hR, hcell⟩ := cells_of_obj hh hl hcc
           obtain ⟨q1, q2, q3⟩ := loadFrom_sound hR hld hn0 (sizeT_one a7)
           have hrun := run_loadVarT (w := w) a7 b off ((cv.toList.take cs.length).drop off) (by simp at q1 ⊢; omega) (fun j v hv => by
            rw [List.getElem?_drop] at hv
            exact hcell _ _ hv)
           exact ⟨f, false, m, ti, e, hE.fn _ _ a6, a1, a2, a3, a4, a5, _, .inr ⟨rfl, _, rfl, hrun⟩, q2⟩
        ·simp at hrv
       ·simp at hmo
      ·simp at hmo
     ·simp at hmo
    have hrun := run_method (w := w) k1 k2 k3 k4 k5 k6
    have hcall := run_callFunc hF hL (#[rr] ++ xs.map a.eval) w
    rw [hfk] at hcall
    refine called_heap (vals := #[rr] ++ xs.map a.eval) nm ho hf hcf (by simp [g1]; omega) ?_ hc ?_ hk
    ·intro i v p hv1 hp1
     cases i with
     | zero =>
       rw [Array.getElem?_append_left (by simp)] at hv1
       simp at hv1 hp1
       subst hv1 hp1
       exact k7
     | succ i => exact g2 i v p (by simpa [Array.getElem?_append] using hv1) (by simpa using hp1)
    ·have hfu : ∃ n, E.P.types.size + Made.depth = n + 1 := ⟨E.P.types.size + Made.depth - 1, by simp [Made.depth]⟩
     obtain ⟨fu, hfu⟩ := hfu
     have hex : (xs.map a.eval).extract 0 xs.size = xs.map a.eval := by
      rw [← Array.size_map (f := a.eval)]
      exact Array.extract_size
     have h0 : (#[Value.iface T v0] ++ xs.map a.eval)[0]? = some (.iface T v0) := by
      rw [Array.getElem?_append_left (by simp)]
      rfl
     rw [hfk]
     simp only [execOp, hop, resolve, hev, ht, Sem.run_bind, Sem.run_pure, Result.andThen_ok, invoke, callMethod]
     simp [hfu, run_program, h0, hrun, hex, hcall]
 ·simp at hm
theorem hcallv_sound {L : Nat → Option PFunc} (hF : FnsOK N P L) (hE : EnvOk E N) (nm : Names vs (lmap vs ops)) (ho : ops[j]? = some o) (hf : FI N w G st a vs (lmap vs ops)) {cf : CallF} (hcf : CallOK N P cf) (hcL : ∀ k args h r, cf k args h = some r → ∃ f, L k = some f)
  {t : Tmp} {px : PX} {xs : Array Operand} {ts : Array TypeId} {pxs : List PX} (hop : o.op = .call { callee := .value (.tmp t), args := xs, argTypes := ts }) (hpx : cx E vs ops (.tmp t) = some px) (hx : cxs E vs ops xs.toList = some pxs)
  (hs : hopv cf (.callv px pxs) st = some (u, st1)) (hk : Goes N w G a st1 u vs ops j o next) : o.wp P a w next Q := by
 simp only [hopv] at hs
 split at hs
 ·rename_i k first captured us hfv hus
  simp only [Option.map_eq_some_iff, Prod.mk.injEq] at hs
  obtain ⟨⟨r, h'⟩, hc, rfl, rfl⟩ := hs
  obtain ⟨h1, h2⟩ := rdAll_sound hE hf hx hus
  obtain ⟨g1, g2⟩ := vals_of (w := w) (G := G) h1 h2
  obtain ⟨pf, hL⟩ := hcL _ _ _ _ hc
  have hfun := (rd_sound hE hpx hf hfv).1
  generalize hv : a.eval (.tmp t) = v at hfun
  cases hfun with
  | yield _ _ _ _ _ _ hy => rw [(hcf.plain _ _ _ _ _ hc).1] at hy; simp at hy
  | func _ fs cs _ _ _ e1 e2 hfs hcs =>
    refine called_heap (vals := fs ++ xs.map a.eval ++ cs) nm ho hf hcf (by simp [e1, e2]; simpa using h1) ?_ hc ?_ hk
    ·intro i v p hv' hp
     by_cases hi : i < fs.size
     ·rw [Array.append_assoc, Array.getElem?_append_left hi] at hv'
      rw [List.append_assoc, List.getElem?_append_left (by omega)] at hp
      exact hfs i v p hv' hp
     ·rw [Array.append_assoc, Array.getElem?_append_right (by omega)] at hv'
      rw [List.append_assoc, List.getElem?_append_right (by omega), ← e1] at hp
      by_cases hi2 : i - fs.size < (xs.map a.eval).size
      ·rw [Array.getElem?_append_left hi2] at hv'
       rw [List.getElem?_append_left (by omega)] at hp
       exact g2 _ v p hv' hp
      ·rw [Array.getElem?_append_right (by omega)] at hv'
       rw [List.getElem?_append_right (by omega), ← g1] at hp
       exact hcs _ v p hv' hp
    ·have := run_callFunc hF hL (fs ++ xs.map a.eval ++ cs) w
     simp only [execOp, hop, resolve, Sem.run_bind, hv, Deferred.ofValue, Sem.run_pure, Result.andThen_ok, invoke]
     exact this
 ·simp at hs
/-- Every operation on the heap. -/
theorem hop_sound {L : Nat → Option PFunc} (hF : FnsOK N P L) (hE : EnvOk E N) (hP : E.P = P) (nm : Names vs (lmap vs ops)) (ho : ops[j]? = some o) (hf : FI N w G st a vs (lmap vs ops)) {cf : CallF} (hcf : CallOK N P cf)
  (hcL : ∀ k args h r, cf k args h = some r → ∃ f, L k = some f) {po : HOp} (hc : cHeap E vs ops o = some po) (hs : hopv cf po st = some (u, st1)) (hk : Goes N w G a st1 u vs ops j o next) : o.wp P a w next Q := by
 subst hP
 unfold cHeap at hc
 split at hc
 ·rename_i t hop
  split at hc
  ·simp at hc
  ·split at hc
   ·rename_i hb
    simp only [Option.some.injEq] at hc
    subst hc
    exact newbld_sound hE rfl nm ho hf hop hb hs hk
   ·simp only [Option.map_eq_some_iff] at hc
    obtain ⟨z, hz, rfl⟩ := hc
    exact newobj_sound nm ho hf hop hz hs hk
 ·rename_i t x hop
  split at hc
  ·simp at hc
  ·simp only [Option.bind_eq_some_iff, Option.map_eq_some_iff] at hc
   obtain ⟨n, hn, p, hp, rfl⟩ := hc
   exact boxobj_sound hE nm ho hf hop hn hp hs hk
 ·rename_i t x hop
  split at hc
  ·simp only [Option.bind_eq_some_iff, Option.map_eq_some_iff] at hc
   obtain ⟨n, hn, p, hp, rfl⟩ := hc
   split at hs
   ·rename_i hcond
    simp only [Bool.and_eq_true, Bool.not_eq_true'] at hcond
    exact loadn_sound hE nm ho hf hop hn hcond.2 hp hs hk
   ·exact hload_sound hE nm ho hf hop hn hp hs hk
  ·split at hc
   ·simp only [Option.bind_eq_some_iff, Option.map_eq_some_iff] at hc
    obtain ⟨n, hn, p, hp, rfl⟩ := hc
    exact loadc_sound hE nm ho hf hop hn hp hs hk
   ·simp at hc
 ·rename_i t x y hop
  split at hc
  ·rename_i hd
   simp only [Option.bind_eq_some_iff, Option.map_eq_some_iff] at hc
   obtain ⟨n, hn, p, hp, q, hq, hc⟩ := hc
   split at hc
   ·subst hc
    exact hstorer_sound hE nm ho hf hop hd.1 hn hp hq hs hk
   ·subst hc
    exact hstore_sound hE nm ho hf hop hd.1 hn hp hq hs hk
  ·simp at hc
 ·rename_i t x i hop
  split at hc
  ·rename_i len e hu
   split at hc
   ·simp only [Option.bind_eq_some_iff, Option.map_eq_some_iff] at hc
    obtain ⟨n, hn, p, hp, q, hq, rfl⟩ := hc
    exact hiaddr_sound hE nm ho hf hop hu hn hp hq hs hk
   ·simp at hc
  ·simp at hc
 ·rename_i t len parts hop
  split at hc
  ·split at hc
   ·rename_i e hu
    split at hc
    ·rename_i size z hn hz
     split at hc
     ·rename_i hlen
      simp only [Option.map_eq_some_iff] at hc
      obtain ⟨ps, hps, rfl⟩ := hc
      exact mkrow_sound hE nm ho hf hop hu hn hz hlen hps hs hk
     ·simp at hc
    ·simp at hc
   ·simp at hc
  ·simp at hc
 ·rename_i t hop
  split at hc
  ·simp at hc
  ·simp only [Option.some.injEq] at hc
   subst hc
   exact mkmap_sound nm ho hf hop hs hk
 ·rename_i t m k ok hop
  split at hc
  ·rename_i kt e hu
   simp only [Option.bind_eq_some_iff, Option.map_eq_some_iff] at hc
   obtain ⟨kk, hkk, z, hz, p, hp, q, hq, rfl⟩ := hc
   exact lookup_sound hE nm ho hf hop hu hkk hz hp hq hs hk
  ·simp at hc
 ·rename_i t m k v hop
  split at hc
  ·rename_i kt e hu
   split at hc
   ·rename_i hd
    simp only [Option.bind_eq_some_iff, Option.map_eq_some_iff] at hc
    obtain ⟨kk, hkk, p, hp, q, hq, r, hr, rfl⟩ := hc
    exact mset_sound hE nm ho hf (.inl hop) hd hu hkk hp hq hr hs hk
   ·simp at hc
  ·simp at hc
 ·rename_i t m k v hop
  split at hc
  ·rename_i kt e hu
   split at hc
   ·rename_i hd
    simp only [Option.bind_eq_some_iff, Option.map_eq_some_iff] at hc
    obtain ⟨kk, hkk, p, hp, q, hq, r, hr, rfl⟩ := hc
    exact mset_sound hE nm ho hf (.inr hop) hd hu hkk hp hq hr hs hk
   ·simp at hc
  ·simp at hc
 ·rename_i op t x y t' hop
  split at hc
  ·rename_i hcond
   simp only [Option.bind_eq_some_iff, Option.map_eq_some_iff] at hc
   obtain ⟨kd, hkd, p, hp, rfl⟩ := hc
   exact isnil_sound hE nm ho hf hop hcond hkd hp hs hk
  ·simp at hc
 ·rename_i x hop
  simp only [Option.map_eq_some_iff] at hc
  obtain ⟨p, hp, rfl⟩ := hc
  exact nilchk_sound hE nm ho hf hop hp hs hk
 ·rename_i t l c' hop
  split at hc
  ·rename_i e hu
   split at hc
   ·rename_i size z hn hz
    split at hc
    ·simp at hc
    ·rename_i hcond
     simp only [Bool.or_eq_true, not_or, Bool.not_eq_true, Bool.not_eq_false'] at hcond
     simp only [Option.map_eq_some_iff] at hc
     obtain ⟨p, hp, rfl⟩ := hc
     split at hs
     ·exact mkfresh_sound hE nm ho hf hop hu hn hz hcond.2 hp hs hk
     ·exact mkarr_sound hE nm ho hf hop hu hn hz hcond.2 hp hs hk
   ·simp at hc
  ·simp at hc
 ·rename_i t x hop
  split at hc
  ·rename_i hu
   split at hc
   ·simp at hc
   ·simp only [Option.map_eq_some_iff] at hc
    obtain ⟨p, hp, rfl⟩ := hc
    exact range_sound hE nm ho hf hop hu hp hs hk
  ·simp at hc
 ·rename_i x hop
  split at hc
  ·simp at hc
  ·simp only [Option.map_eq_some_iff] at hc
   obtain ⟨p, hp, rfl⟩ := hc
   exact next_sound hE nm ho hf hop hp hs hk
 ·rename_i t parts hop
  split at hc
  ·rename_i n e hu
   split at hc
   ·rename_i size z hn hz
    simp only [Option.map_eq_some_iff] at hc
    obtain ⟨ps, hps, rfl⟩ := hc
    exact barr_sound hE nm ho hf hop hu hn hz hps hs hk
   ·simp at hc
  ·rename_i fs hu
   simp only at hc
   split at hc
   ·simp at hc
   ·split at hc
    ·rename_i places z hpl hz
     simp only [Option.map_eq_some_iff] at hc
     obtain ⟨ps, hps, rfl⟩ := hc
     refine buildA_sound hE nm ho hf hop hu hz hpl ?_ hps hs hk
     intro j' hj'
     obtain ⟨p, _, hp⟩ := List.mem_filterMap.1 hj'
     obtain ⟨t', _, h2⟩ := frAt_some hp
     exact cx_loc h2
    ·simp at hc
  ·simp at hc
 ·rename_i t x i hop
  split at hc
  ·rename_i len e hu
   simp only [Option.bind_eq_some_iff, Option.map_eq_some_iff] at hc
   obtain ⟨n, hn, p, hp, q, hq, rfl⟩ := hc
   exact idxA_sound hE nm ho hf hop hu hn hp hq hs hk
  ·simp at hc
 ·rename_i fn xs ys hop
  split at hc
  ·simp at hc
  ·simp only [Option.bind_eq_some_iff, Option.map_eq_some_iff] at hc
   obtain ⟨f, hfn, k, hk', ps, hps, qs, hqs, rfl⟩ := hc
   have : fn = .func f := by
    unfold isFn at hfn
    split at hfn
    ·simp at hfn; subst hfn; rfl
    ·simp at hfn
   subst this
   exact mkfunc_sound hE nm ho hf hop hk' hps hqs hs hk
 ·rename_i args ts hop
  obtain ⟨args⟩ := args
  obtain ⟨ts⟩ := ts
  split at hc
  ·rename_i s x t1 t2 hargs hts
   simp only at hargs hts
   subst hargs hts
   split at hc
   ·split at hc
    ·rename_i e e' hu hu'
     split at hc
     ·rename_i size z hn hz
      simp only [Option.bind_eq_some_iff, Option.map_eq_some_iff] at hc
      obtain ⟨p, hp, q, hq, rfl⟩ := hc
      exact happ_sound hE nm ho hf hop hu hu' hn hz hp hq hs hk
     ·simp at hc
    ·rename_i e k0 hu hu'
     split at hc
     ·rename_i size z hn hz
      simp only [Option.bind_eq_some_iff, Option.map_eq_some_iff] at hc
      obtain ⟨p, hp, q, hq, rfl⟩ := hc
      exact happz_sound hE nm ho hf hop hu hu' hn hz hp hq hs hk
     ·simp at hc
    ·simp at hc
   ·simp at hc
  ·simp at hc
 ·rename_i args ts hop
  obtain ⟨args⟩ := args
  obtain ⟨ts⟩ := ts
  split at hc
  ·rename_i x t rest hargs hts
   simp only at hargs hts
   subst hargs hts
   split at hc
   ·rename_i e hu
    split at hc
    ·rename_i hn0
     simp only [Option.bind_eq_some_iff, Option.map_eq_some_iff] at hc
     obtain ⟨size, hn, z, hz, p, hp, rfl⟩ := hc
     have hdst : o.dst = none := by
      unfold isN cDst at hn0
      split at hn0
      ·rename_i hd
       split at hd
       ·assumption
       ·split at hd <;> simp at hd
      ·simp at hn0
     exact clear_sound hE nm ho hf hdst hop hu hn hz hp hs hk
    ·simp at hc
   ·simp at hc
  ·simp at hc
 ·rename_i args ts hop
  obtain ⟨args⟩ := args
  obtain ⟨ts⟩ := ts
  split at hc
  ·rename_i m x t rest hargs hts
   simp only at hargs hts
   subst hargs hts
   split at hc
   ·rename_i kt e hu
    split at hc
    ·rename_i hd
     simp only [Option.bind_eq_some_iff, Option.map_eq_some_iff] at hc
     obtain ⟨kk, hkk, p, hp, q, hq, rfl⟩ := hc
     exact mdel_sound hE nm ho hf hop hd hu hkk hp hq hs hk
    ·simp at hc
   ·simp at hc
  ·simp at hc
 ·rename_i args ts hop
  obtain ⟨args⟩ := args
  obtain ⟨ts⟩ := ts
  split at hc
  ·rename_i x t rest hargs hts
   simp only at hargs hts
   subst hargs hts
   split at hc
   ·rename_i kt e hu
    split at hc
    ·simp at hc
    ·simp only [Option.map_eq_some_iff] at hc
     obtain ⟨p, hp, rfl⟩ := hc
     exact mlen_sound hE nm ho hf hop rfl hu hp hs hk
   ·simp at hc
  ·simp at hc
 ·rename_i f args ts hop
  split at hc
  ·simp only [Option.bind_eq_some_iff, Option.map_eq_some_iff] at hc
   obtain ⟨k, hk', ps, hps, rfl⟩ := hc
   split at hs
   ·refine hcall_sound hF hE nm ho hf hcf hcL hop hk' hps ?_ hk
    simp only [hopv, Option.bind_eq_some_iff, same] at hs ⊢
    obtain ⟨us, h1, r, h2, h3⟩ := hs
    split at h3
    ·rename_i he
     simp only [Option.some.injEq, Prod.mk.injEq] at h3
     obtain ⟨rfl, rfl⟩ := h3
     exact ⟨us, h1, by rw [h2, Option.map_some, he]⟩
    ·simp at h3
   ·split at hs
    ·exact lcall_sound hF hE nm ho hf hcf hcL hop hk' hps hs hk
    ·split at hs
     ·exact zcall_sound hF hE nm ho hf hcf hcL hop hk' hps hs hk
     ·exact hcall_sound hF hE nm ho hf hcf hcL hop hk' hps hs hk
  ·simp at hc
 ·rename_i x name args ts hop
  simp only [Option.bind_eq_some_iff, Option.map_eq_some_iff] at hc
  obtain ⟨p, hp, ps, hps, rfl⟩ := hc
  exact icall_sound hF hE rfl nm ho hf hcf hcL hop hp hps hs hk
 ·rename_i t args ts hop
  split at hc
  ·simp only [Option.bind_eq_some_iff, Option.map_eq_some_iff] at hc
   obtain ⟨p, hp, ps, hps, rfl⟩ := hc
   exact hcallv_sound hF hE nm ho hf hcf hcL hop hp hps hs hk
  ·simp at hc
 ·simp at hc
/-- Every operation. -/
theorem op_sound {L : Nat → Option PFunc} (hF : FnsOK N P L) (hE : EnvOk E N) (hP : E.P = P) (nm : Names vs (lmap vs ops)) (ho : ops[j]? = some o) (hf : FI N w G st a vs (lmap vs ops)) {cf : CallF} (hcf : CallOK N P cf)
  (hcL : ∀ k args h r, cf k args h = some r → ∃ f, L k = some f) {po : POp} (hc : cOp E vs ops o = some po) (hs : opv cf po st = some (u, st1)) (hk : Goes N w G a st1 u vs ops j o next) : o.wp P a w next Q := by
 unfold cOp at hc
 simp only at hc
 split at hc
 ·rename_i h hch
  simp only [Option.some.injEq] at hc
  subst hc
  exact hop_sound hF hE hP nm ho hf hcf hcL hch (by simpa [opv] using hs) hk
 rename_i hnone
 subst hP
 split at hc
 ·skip
  rename_i x hop
  simp only [Option.map_eq_some_iff] at hc
  obtain ⟨p, hp, rfl⟩ := hc
  split at hs
  ·exact take_sound hE nm ho hf (by simp [execOp, hop]) hp (by simpa [opv] using hs) hk
  ·exact mov_sound hE nm ho hf (by simp [execOp, hop]) hp (by simpa [opv] using hs) hk
 ·rename_i x hop
  simp only [Option.map_eq_some_iff] at hc
  obtain ⟨p, hp, rfl⟩ := hc
  exact take_sound hE nm ho hf (by simp [execOp, hop]) hp (by simpa [opv] using hs) hk
 ·rename_i x y z hop
  simp only [Option.bind_eq_some_iff, Option.map_eq_some_iff] at hc
  obtain ⟨px, hpx, pa, hpa, pb, hpb, rfl⟩ := hc
  exact pick_sound hE nm ho hf hop hpx hpa hpb hs hk
 ·rename_i t hop
  split at hc
  ·rename_i hv
   simp only [Option.map_eq_some_iff] at hc
   obtain ⟨z, hz, rfl⟩ := hc
   exact newloc_sound nm ho hf hop hz hv hs hk
  ·simp at hc
 ·rename_i t x hop
  split at hc
  ·rename_i hv
   simp only [Option.bind_eq_some_iff, Option.map_eq_some_iff] at hc
   obtain ⟨n, hn, p, hp, rfl⟩ := hc
   exact boxloc_sound hE nm ho hf hop hn hp hv hs hk
  ·simp at hc
 ·rename_i t parts hop
  split at hc
  ·rename_i fs z hu hz
   split at hc
   ·rename_i places hpl
    simp only [Option.map_eq_some_iff] at hc
    obtain ⟨ps, hps, rfl⟩ := hc
    exact build_sound hE nm ho hf hop hu hz hpl hps hs hk
   ·simp at hc
  ·simp at hc
 ·rename_i t len parts hop
  split at hc
  ·rename_i e hu
   split at hc
   ·rename_i size z hn hz
    split at hc
    ·rename_i hlen
     simp only [Option.map_eq_some_iff] at hc
     obtain ⟨ps, hps, rfl⟩ := hc
     exact mkslice_sound hE nm ho hf hop hu hn hz hlen hps hs hk
    ·simp at hc
   ·simp at hc
  ·simp at hc
 ·rename_i t x hop
  simp only [Option.bind_eq_some_iff, Option.map_eq_some_iff] at hc
  obtain ⟨n, hn, p, hp, rfl⟩ := hc
  split at hs
  ·refine load_sound (tk := false) (cf := cf) hE nm ho hf hop hn hp ?_ hk
   simp only [opv] at hs ⊢
   split at hs
   ·rename_i s' g off hadd
    split at hs
    ·rename_i g' cs hv
     split at hs
     ·rename_i hc
      obtain ⟨rfl, rfl⟩ := hc
      simp only [hadd, hv, if_true, Bool.false_and]
      exact hs
     ·simp at hs
    ·simp at hs
   ·simp at hs
  ·exact load_sound hE nm ho hf hop hn hp hs hk
 ·rename_i t x y hop
  split at hc
  ·rename_i hd
   simp only [Option.bind_eq_some_iff, Option.map_eq_some_iff] at hc
   obtain ⟨n, hn, p, hp, q, hq, rfl⟩ := hc
   exact store_sound hE nm ho hf hop hd hn hp hq hs hk
  ·simp at hc
 ·rename_i s x f hop
  split at hc
  ·rename_i fs hu
   split at hc
   ·rename_i fd hfd
    simp only [Option.bind_eq_some_iff, Option.map_eq_some_iff] at hc
    obtain ⟨n, hn, p, hp, rfl⟩ := hc
    exact faddr_sound hE nm ho hf hop hu hfd hn hp hs hk
   ·simp at hc
  ·simp at hc
 ·rename_i t x i hop
  split at hc
  ·rename_i e hu
   simp only [Option.bind_eq_some_iff, Option.map_eq_some_iff] at hc
   obtain ⟨n, hn, p, hp, q, hq, rfl⟩ := hc
   exact iaddrS_sound hE nm ho hf hop hu hn hp hq hs hk
  ·rename_i len e hu
   simp only [Option.bind_eq_some_iff, Option.map_eq_some_iff] at hc
   obtain ⟨n, hn, p, hp, q, hq, rfl⟩ := hc
   exact iaddrA_sound hE nm ho hf hop hu hn hp hq hs hk
  ·simp at hc
 ·rename_i t x f hop
  split at hc
  ·rename_i fs hu
   split at hc
   ·rename_i fd hfd
    simp only [Option.bind_eq_some_iff, Option.map_eq_some_iff] at hc
    obtain ⟨n, hn, p, hp, rfl⟩ := hc
    exact field_sound hE nm ho hf hop hu hfd hn hp hs hk
   ·simp at hc
  ·simp at hc
 ·rename_i t x i hop
  split at hc
  ·rename_i hu
   simp only [Option.bind_eq_some_iff, Option.map_eq_some_iff] at hc
   obtain ⟨p, hp, q, hq, rfl⟩ := hc
   exact indexStr_sound hE nm ho hf hop hu hp hq hs hk
  ·simp at hc
 ·rename_i t x lo hi hop
  split at hc
  ·rename_i hu
   simp only [Option.bind_eq_some_iff, Option.map_eq_some_iff] at hc
   obtain ⟨p, hp, pl, hl, ph, hh, rfl⟩ := hc
   exact sliceS_sound hE nm ho hf hop hu hp hl hh hs hk
  ·rename_i e hu
   simp only [Option.bind_eq_some_iff, Option.map_eq_some_iff] at hc
   obtain ⟨n, hn, p, hp, pl, hl, ph, hh, rfl⟩ := hc
   exact sliceL_sound hE nm ho hf hop hu hn hp hl hh hs hk
  ·rename_i n e hu
   split at hc
   ·have hn : sizeT E.P e = some 1 := by assumption
    simp only [Option.map_eq_some_iff] at hc
    obtain ⟨p, hp, rfl⟩ := hc
    exact sliceLoc_sound hE nm ho hf hop hu hn hp hs hk
   ·simp at hc
  ·simp at hc
 ·rename_i op t x y t' hop
  split at hc
  ·rename_i hop2
   split at hc
   ·rename_i agg ks ht
    simp only [Option.bind_eq_some_iff, Option.map_eq_some_iff] at hc
    obtain ⟨p, hp, q, hq, rfl⟩ := hc
    exact eq_sound hE rfl nm ho hf hop hop2 ht hp hq hs hk
   ·simp only [Option.bind_eq_some_iff, Option.map_eq_some_iff] at hc
    obtain ⟨p, hp, q, hq, rfl⟩ := hc
    exact bin_sound hE nm ho hf hop hp hq hs hk
   ·simp at hc
  ·simp only [Option.bind_eq_some_iff, Option.map_eq_some_iff] at hc
   obtain ⟨p, hp, q, hq, rfl⟩ := hc
   exact bin_sound hE nm ho hf hop hp hq hs hk
 ·rename_i op t x hop
  simp only [Option.map_eq_some_iff] at hc
  obtain ⟨p, hp, rfl⟩ := hc
  exact un_sound hE nm ho hf hop hp hs hk
 ·rename_i s t x hop
  split at hc
  ·rename_i k' k hu hu'
   simp only [Option.map_eq_some_iff] at hc
   obtain ⟨p, hp, rfl⟩ := hc
   exact convInt_sound hE nm ho hf hop hu hu' hp hs hk
  ·rename_i hu hu'
   simp only [Option.map_eq_some_iff] at hc
   obtain ⟨p, hp, rfl⟩ := hc
   exact movs_sound hE nm ho hf hop hu hu' hp hs hk
  ·rename_i e hu hu'
   split at hc
   ·rename_i he
    split at hc
    ·simp at hc
    ·rename_i hnd
     have hnd' : cDst vs o.dst ≠ .n := by intro e; rw [e] at hnd; simp [isN] at hnd
     simp only [Option.map_eq_some_iff] at hc
     obtain ⟨p, hp, rfl⟩ := hc
     exact s2b_sound hE nm ho hf hop hnd' hu hu' he hp hs hk
   ·simp at hc
  ·rename_i e hu hu'
   split at hc
   ·rename_i he
    simp only [Option.map_eq_some_iff] at hc
    obtain ⟨p, hp, rfl⟩ := hc
    exact b2s_sound hE nm ho hf hop hu he hu' hp hs hk
   ·simp at hc
  ·simp at hc
 ·rename_i t x hop
  split at hc
  ·simp at hc
  ·rename_i d hd hu
   simp only [Option.bind_eq_some_iff, Option.map_eq_some_iff] at hc
   obtain ⟨i, hi, p, hp, rfl⟩ := hc
   exact ifc1_sound hE nm ho hf hop hu (fun m e => hd m e) hi hp hs hk
  ·simp at hc
 ·rename_i x t' t hop
  split at hc
  ·simp at hc
  ·rename_i d hd hu
   simp only [Option.bind_eq_some_iff, Option.map_eq_some_iff] at hc
   obtain ⟨i, hi, p, hp, rfl⟩ := hc
   exact ifc0_sound hE nm ho hf hop hu (fun m e => hd m e) hi hp hs hk
  ·simp at hc
 ·rename_i x i hop
  simp only [Option.map_eq_some_iff] at hc
  obtain ⟨p, hp, rfl⟩ := hc
  exact extract_sound hE nm ho hf hop hp hs hk
 ·rename_i b args ts hop
  split at hc
  ·simp at hc
  ·rename_i hnd
   have hnd' : cDst vs o.dst ≠ .n := by intro e; rw [e] at hnd; simp [isN] at hnd
   obtain ⟨args⟩ := args
   obtain ⟨ts⟩ := ts
   unfold cBuiltin at hc
   split at hc
   ·rename_i x t rest hb hargs hts
    simp only at hargs hts
    subst hargs hts
    split at hc
    ·rename_i hu
     simp only [Option.map_eq_some_iff] at hc
     obtain ⟨p, hp, rfl⟩ := hc
     exact len_sound hE nm ho hf hop rfl (str := true) (by simpa using hu) hp hs hk
    ·rename_i e hu
     simp only [Option.map_eq_some_iff] at hc
     obtain ⟨p, hp, rfl⟩ := hc
     exact len_sound hE nm ho hf hop rfl (str := false) (by simpa using ⟨e, hu⟩) hp hs hk
    ·simp at hc
   ·simp only [Option.map_eq_some_iff] at hc
    obtain ⟨p, hp, rfl⟩ := hc
    exact mm_sound (mx := false) hE nm ho hf hop hp hs hk
   ·simp only [Option.map_eq_some_iff] at hc
    obtain ⟨p, hp, rfl⟩ := hc
    exact mm_sound (mx := true) hE nm ho hf hop hp hs hk
   ·rename_i x t rest hb hargs hts
    simp only at hargs hts
    subst hargs hts
    split at hc
    ·rename_i e hu
     simp only [Option.map_eq_some_iff] at hc
     obtain ⟨p, hp, rfl⟩ := hc
     exact cap_sound hE nm ho hf hop rfl hu hp hs hk
    ·simp at hc
   ·rename_i s x t1 t2 hb hargs hts
    simp only at hargs hts
    subst hargs hts
    split at hc
    ·rename_i e e' hu hu'
     split at hc
     ·rename_i size z hn hz
      simp only [Option.bind_eq_some_iff, Option.map_eq_some_iff] at hc
      obtain ⟨p, hp, q, hq, rfl⟩ := hc
      exact append_sound hE nm ho hf hop hnd' hu hu' hn hz hp hq hs hk
     ·simp at hc
    ·rename_i e hu hu'
     split at hc
     ·rename_i z he hn hz hb1
      simp only [Option.bind_eq_some_iff, Option.map_eq_some_iff] at hc
      obtain ⟨p, hp, q, hq, rfl⟩ := hc
      exact appstr_sound hE nm ho hf hop hnd' hu hu' hn hz hb1 hp hq hs hk
     ·simp at hc
    ·simp at hc
   ·simp at hc
 ·rename_i f args ts hop
  simp only [Option.bind_eq_some_iff, Option.map_eq_some_iff] at hc
  obtain ⟨k, hk', ps, hps, rfl⟩ := hc
  split at hs
  ·split at hs
   ·simp [stuckOp, opv, rd, raw, cp] at hs
   ·rename_i hnd
    exact pcallx_sound hF hE nm ho (by intro e; rw [e] at hnd; simp [isN] at hnd) hf hcf hcL hop hk' hps hs hk
  ·split at hs
   ·exact pzcall_sound hF hE nm ho hf hcf hcL hop hk' hps hs hk
   ·exact pcall_sound hF hE nm ho hf hcf hcL hop hk' hps hs hk
 ·rename_i t args ts hop
  simp only [Option.bind_eq_some_iff, Option.map_eq_some_iff] at hc
  obtain ⟨p, hp, ps, hps, rfl⟩ := hc
  exact callv_sound hF hE nm ho hf hcf hcL hop hp hps hs hk
 ·simp at hc
end
end PI
