/-
  The pure interpreter is right, 8: appends, a box turned into a slice.
-/
import Derived.Test.YtaejhojielbbdaaGreatDoorPiSound7
import Derived.Laws.BytesArg
import Derived.Lib.ConvBytes
set_option linter.unusedSimpArgs false
set_option linter.unusedVariables false
set_option linter.unusedSectionVars false
namespace PI
open Go
/-- All but the place that is written are kept. -/
theorem FI.extDst {N : Nm} {w w' : World} {G G' : GS} {st : St} {a : Act} {vs : List Tmp} {lm : Nat → Option Tmp} {j : Nat} {d : PD} {dst : Option Tmp} {v : Value} {u : PV}
  (h : FI N w G st a vs lm) (nm : Names vs lm) (hd : DstOk vs lm j d dst) (hdn : d ≠ .n) (e : Ext w G w' G') (hk : Keep (fun k => k = keyD d j) w G w' G')
  (hg : ∀ g b, G'.box g = some b → g < st.gen) (ho : ∀ b k, G'.ow b = some k → b < w'.heap.size) (hx : ∀ b o, G'.fix b o → b < w'.heap.size) (hh : G'.heap = G.heap) (hs : SR N w' G' (keyD d j) v u) :
  FI N w' G' (PI.put st j d u) (a.put dst v) vs lm := by
 cases d with
 | n => exact absurd rfl hdn
 | v i =>
   obtain ⟨t, rfl, ht⟩ := hd
   have hsz := h.tv i t ht
   refine ⟨by simp [PI.put, h.len], ?_, ?_, ?_, ?_, (h.defers.trans e.df.symm), hg, ho, hx, h.heap.keep e hk (by intro k hk e; subst e; simp [keyD, Key.isH] at hk), by rw [hh]; exact h.hdom⟩
   ·intro i' t' u' h1 h2
    rw [put_eval _ _ _ _ hsz]
    simp only [PI.put, List.getElem?_set] at h2
    by_cases hi : i = i'
    ·subst hi
     have : t' = t := by rw [ht] at h1; simpa using h1.symm
     subst this
     split at h2
     ·split at h2
      ·simp at h2; subst h2; simp only [if_true]; exact hs
      ·simp at h2
     ·exact absurd rfl ‹_›
    ·rw [if_neg hi] at h2
     have hne : t' ≠ t := fun e => hi (nm.vnd i i' t ht (e ▸ h1))
     rw [if_neg hne]
     exact (h.var i' t' u' h1 h2).keep e hk (by simp [keyD]; omega) (by simp [keyD])
   ·intro j' t' u' h1 h2
    rw [put_eval _ _ _ _ hsz, if_neg (fun e : t' = t => nm.sep j' t' i h1 (e ▸ ht))]
    exact (h.loc j' t' u' h1 h2).keep e hk (by simp [keyD]) (by simp)
   ·intro i' t' h1; simpa [Act.put] using h.tv i' t' h1
   ·intro j' t' h1; simpa [Act.put] using h.tl j' t' h1
 | l =>
   obtain ⟨t, rfl, ht⟩ := hd
   have hsz := h.tl j t ht
   refine ⟨h.len, ?_, ?_, ?_, ?_, (h.defers.trans e.df.symm), hg, ho, hx, h.heap.keep e hk (by intro k hk e; subst e; simp [keyD, Key.isH] at hk), by rw [hh]; exact h.hdom⟩
   ·intro i' t' u' h1 h2
    rw [put_eval _ _ _ _ hsz, if_neg (fun e : t' = t => nm.sep j t i' ht (e ▸ h1))]
    exact (h.var i' t' u' h1 h2).keep e hk (by simp [keyD]) (by simp [keyD])
   ·intro j' t' u' h1 h2
    rw [put_eval _ _ _ _ hsz]
    simp only [PI.put, List.getElem?_set] at h2
    by_cases hj : j = j'
    ·subst hj
     have : t' = t := by rw [ht] at h1; simpa using h1.symm
     subst this
     split at h2
     ·split at h2
      ·simp at h2; subst h2; simp only [if_true]; exact hs
      ·simp at h2
     ·exact absurd rfl ‹_›
    ·rw [if_neg hj] at h2
     have hne : t' ≠ t := fun e => hj (nm.lnd j j' t ht (e ▸ h1))
     rw [if_neg hne]
     exact (h.loc j' t' u' h1 h2).keep e hk (by simp [keyD]; omega) (by simp)
   ·intro i' t' h1; simpa [Act.put] using h.tv i' t' h1
   ·intro j' t' h1; simpa [Act.put] using h.tl j' t' h1
theorem SR.own {N : Nm} {w : World} {G : GS} {key : Key} {v : Value} {es : List PV} (h : VR N w G.fix G.heap v (.list true es)) (hr : Room w G key v es) : SR N w G key v (.list true es) := ⟨h, hr⟩
/-- The cells of a row's elements. -/
structure ListR (N : Nm) (w : World) (fix : Nat → Nat → Prop) (hp : Nat → Option Nat) (size : Nat) (news : List Value) (es : List PV) : Prop where
 len : news.length = es.length * size
 sz : ∀ e ∈ es, e.cells.length = size
 flat : ∀ e ∈ es, ∀ x ∈ e.cells, x.flat = true
 vr : ∀ (i : Nat) (e : PV), es[i]? = some e → ∀ (k : Nat) (c : Value) (x : PV), news[i * size + k]? = some c → e.cells[k]? = some x → VR N w fix hp c x
section
variable {E : Env} {N : Nm} {w : World} {G : GS} {st : St} {a : Act} {vs : List Tmp} {ops : List Oper} {P : Program}
variable {o : Oper} {j : Nat} {next : Act → World → Prop} {Q : Exit → Act → World → Prop} {u : PV} {st1 : St}
theorem ListR.append {fix : Nat → Nat → Prop} {hp : Nat → Option Nat} {size : Nat} {xs ys : List Value} {es fs : List PV} (h : ListR N w fix hp size xs es) (k : ListR N w fix hp size ys fs) (hs : size ≠ 0) :
  ListR N w fix hp size (xs ++ ys) (es ++ fs) := by
 refine ⟨by simp [h.len, k.len, Nat.add_mul], ?_, ?_, ?_⟩
 ·intro e he; rcases List.mem_append.1 he with he | he
  ·exact h.sz e he
  ·exact k.sz e he
 ·intro e he; rcases List.mem_append.1 he with he | he
  ·exact h.flat e he
  ·exact k.flat e he
 ·intro i e he m c x hc hx
  by_cases hi : i < es.length
  ·rw [List.getElem?_append_left hi] at he
   have hm : m < size := by have := (List.getElem?_eq_some_iff.1 hx).1; have := h.sz e (List.mem_of_getElem? he); omega
   rw [List.getElem?_append_left (by rw [h.len]; exact idx_lt hi hm)] at hc
   exact h.vr i e he m c x hc hx
  ·rw [List.getElem?_append_right (by omega)] at he
   have hge : xs.length ≤ i * size + m := by
    rw [h.len]
    have : es.length * size ≤ i * size := Nat.mul_le_mul_right _ (by omega)
    omega
   rw [List.getElem?_append_right hge, h.len] at hc
   refine k.vr _ e he m c x ?_ hx
   rw [show (i - es.length) * size + m = i * size + m - es.length * size by
    rw [Nat.sub_mul]
    have : es.length * size ≤ i * size := Nat.mul_le_mul_right _ (by omega)
    omega]
   exact hc
theorem ListR.mono {w' : World} {fix fix' : Nat → Nat → Prop} {hp hp' : Nat → Option Nat} {size : Nat} {xs : List Value} {es : List PV} (h : ListR N w fix hp size xs es)
  (hf : ∀ b o, fix b o → fix' b o ∧ w'.cell? ⟨b, o, none⟩ = w.cell? ⟨b, o, none⟩) (hh : ∀ n b, hp n = some b → hp' n = some b) (hs : ShapeLe w w') : ListR N w' fix' hp' size xs es :=
 ⟨h.len, h.sz, h.flat, fun i e he k c x hc hx => (h.vr i e he k c x hc hx).mono hf hh hs⟩
theorem ListR.one {fix : Nat → Nat → Prop} {hp : Nat → Option Nat} {size : Nat} {xs : List Value} {es : List PV} (h : ListR N w fix hp size xs es) (hs : size ≠ 0) : ∀ c ∈ xs, c.oneCell' = true := by
 intro c hc
 obtain ⟨m, hm⟩ := List.mem_iff_getElem?.1 hc
 have hlt : m < es.length * size := by have := (List.getElem?_eq_some_iff.1 hm).1; rw [h.len] at this; exact this
 have hi : m / size < es.length := by rw [Nat.div_lt_iff_lt_mul (by omega)]; exact hlt
 have hk : m % size < size := Nat.mod_lt _ (by omega)
 have he := List.getElem?_eq_getElem hi
 have hmem := List.mem_of_getElem? he
 have hkl : m % size < (es[m / size]).cells.length := by rw [h.sz _ hmem]; exact hk
 have hx := List.getElem?_eq_getElem hkl
 have hmk : m / size * size + m % size = m := by rw [Nat.mul_comm]; exact Nat.div_add_mod m size
 have h1 := (h.vr _ _ he _ c _ (by rw [hmk]; exact hm) hx).oneCell (h.flat _ hmem _ (List.mem_of_getElem? hx))
 cases c <;> first | rfl | simp [oneCell] at h1
/-- A row, taken to its cells. -/
theorem list_cells {fix : Nat → Nat → Prop} {hp : Nat → Option Nat} {size : Nat} {v : Value} {own : Bool} {es : List PV} (h : VR N w fix hp v (.list own es)) (hh : headOk size es = true) :
  ∃ news, ListR N w fix hp size news es ∧ ((v = .slice none 0 0 ∧ es = [] ∧ news = []) ∨ (∃ ad cap, v = .slice (some ad) 0 cap ∧ es = [] ∧ news = []) ∨
    ∃ b off cap, v = .slice (some ⟨b, off, none⟩) es.length cap ∧ es.length ≤ cap ∧ ∀ (j : Nat) (u : Value), news[j]? = some u → w.cell? ⟨b, off + j, none⟩ = some u ∧ fix b (off + j)) := by
 cases h with
 | nils => exact ⟨[], ⟨by simp, by simp, by simp, by simp⟩, .inl ⟨rfl, rfl, rfl⟩⟩
 | void _ ad cap => exact ⟨[], ⟨by simp, by simp, by simp, by simp⟩, .inr (.inl ⟨ad, cap, rfl, rfl, rfl⟩)⟩
 | list _ b off len cap sz _ cv hlen hcap hsz hflat hcell hvr =>
   subst hlen
   by_cases h0 : es = []
   ·subst h0
    exact ⟨[], ⟨by simp, by simp, by simp, by simp⟩, .inr (.inr ⟨b, off, cap, rfl, hcap, by simp⟩)⟩
   ·have hs : sz = size := by
     cases es with
     | nil => exact absurd rfl h0
     | cons y ys =>
       have := hsz y (by simp)
       simp [headOk] at hh
       omega
    subst hs
    refine ⟨(List.range (es.length * sz)).map cv, ⟨by simp, hsz, hflat, ?_⟩, .inr (.inr ⟨b, off, cap, rfl, hcap, ?_⟩)⟩
    ·intro i e he k c x hc hx
     simp only [List.getElem?_map, Option.map_eq_some_iff] at hc
     obtain ⟨m, hm, rfl⟩ := hc
     have : m = i * sz + k := by
      have := (List.getElem?_eq_some_iff.1 hm)
      obtain ⟨h1, h2⟩ := this
      simp at h2; exact h2.symm
     subst this
     exact hvr i e he k x hx
    ·intro j u hu
     simp only [List.getElem?_map, Option.map_eq_some_iff] at hu
     obtain ⟨m, hm, rfl⟩ := hu
     have hm' : m = j ∧ j < es.length * sz := by
      obtain ⟨h1, h2⟩ := List.getElem?_eq_some_iff.1 hm
      simp at h1 h2; exact ⟨h2.symm, h1⟩
     obtain ⟨rfl, hlt⟩ := hm'
     exact hcell m hlt
theorem list_mk {fix : Nat → Nat → Prop} {hp : Nat → Option Nat} {size b off cap : Nat} {own : Bool} {es : List PV} {news : List Value} (h : ListR N w fix hp size news es) (hcap : es.length ≤ cap)
  (hc : ∀ (j : Nat) (u : Value), news[j]? = some u → w.cell? ⟨b, off + j, none⟩ = some u ∧ fix b (off + j)) : VR N w fix hp (.slice (some ⟨b, off, none⟩) es.length cap) (.list own es) := by
 refine .list own b off es.length cap size es (fun k => news.getD k undef) rfl hcap h.sz h.flat ?_ ?_
 ·intro k hk
  have hlt : k < news.length := by rw [h.len]; exact hk
  have := hc k news[k] (List.getElem?_eq_getElem hlt)
  simpa [List.getD, List.getElem?_eq_getElem hlt] using this
 ·intro i e he k x hx
  have hk : k < size := by have := (List.getElem?_eq_some_iff.1 hx).1; have := h.sz e (List.mem_of_getElem? he); omega
  have hi : i < es.length := (List.getElem?_eq_some_iff.1 he).1
  have hlt : i * size + k < news.length := by rw [h.len]; exact idx_lt hi hk
  have := h.vr i e he k news[i * size + k] x (List.getElem?_eq_getElem hlt) hx
  simpa [List.getD, List.getElem?_eq_getElem hlt] using this
theorem run_storeCells_live (P : Program) (g o : Nat) (t : TypeId) (fz : Nat × Nat) : ∀ (vs : List Value) (i : Nat) (cur : Array Value) (w : World), w.heap[g]? = some (.cells cur t fz) → (∀ o, o < cur.size → ¬ (fz.1 ≤ o ∧ o < fz.2)) → o + i + vs.length ≤ cur.size → (∀ v ∈ vs, v.oneCell' = true) →
  (storeCells ⟨g, o, none⟩ vs i).run P w = .ok () (w.setRow g (cur.toList.take (o + i) ++ vs ++ cur.toList.drop (o + i + vs.length)).toArray)
 | [], i, cur, w, hg, _, _, _ => by
   simp only [storeCells, List.append_nil, List.length_nil, Nat.add_zero, List.take_append_drop, Array.toArray_toList]
   rw [setRow_self w g cur t fz hg]
   rfl
 | v :: rest, i, cur, w, hg, hz, hl, h1 => by
   have hi : o + i < cur.size := by simp at hl; omega
   have hadd : (⟨g, o, none⟩ : Addr).add i = ⟨g, o + i, none⟩ := by unfold Addr.add; split <;> simp_all
   have hcell : w.cell? ⟨g, o + i, none⟩ = some cur[o + i] := by simp [World.cell?, hg, hi]
   have hfro : w.frozen? ⟨g, o + i, none⟩ = false := by
    have := hz _ hi
    obtain ⟨lo, hi'⟩ := fz
    simp only at this
    simp only [World.frozen?, hg, Bool.and_eq_false_iff, decide_eq_false_iff_not]
    omega
   have hst : (store ((⟨g, o, none⟩ : Addr).add i) v).run P w = .ok () (w.setRow g (cur.setIfInBounds (o + i) v)) := by
    rw [hadd, run_store P w _ v _ (h1 v (by simp)), hcell]
    simp [hfro, setCell_eq_setRow w g (o + i) cur t fz v hg]
   have ih := run_storeCells_live P g o t fz rest (i + 1) (cur.setIfInBounds (o + i) v) (w.setRow g (cur.setIfInBounds (o + i) v)) (setRow_heap w g cur _ t _ hg) (by simpa using hz) (by simp at hl ⊢; omega) (fun x hx => h1 x (by simp [hx]))
   simp only [storeCells, Sem.run_bind, hst, Result.andThen_ok, ih, setRow_setRow]
   congr 3
   have e := list_seg_step cur.toList (o + i) v rest (by simp at hl ⊢; omega)
   simpa [Array.toList_setIfInBounds, Nat.add_assoc] using e
theorem append_core (hE : EnvOk E N) (nm : Names vs (lmap vs ops)) (ho : ops[j]? = some o) (hf : FI N w G st a vs (lmap vs ops)) {ts tx e : TypeId} {size : Nat} {z : List PV} {s x : Operand} {ps : PX}
  (hop : o.op = .call { callee := .builtin .append, args := #[s, x], argTypes := #[ts, tx] }) (hdst : cDst vs o.dst ≠ .n) (hts : P.underlying ts = some (.slice e)) (hn : sizeT P e = some size) (hz : zeroT P e = some z)
  (hs' : cx E vs ops s = some ps) {es xs : List PV} {st' : St} (htk : tk st ps = some (.list true es, st')) (hh1 : headOk size es = true) (hlen : es.length + xs.length ≤ 9223372036854775807) (hbytes : (es.length + xs.length) * P.bytesOf e ≤ 140737488355328)
  {news : List Value} (hRx : ListR N w G.fix G.heap size news xs) (hsrc : Src P size tx (a.eval x) xs.length news w)
  (hk : Goes N w G a st' (.list true (es ++ xs)) vs ops j o next) : o.wp P a w next Q := by
 obtain ⟨i, d, hi, hisz, hs0, hd⟩ := info_underlying hn
 obtain ⟨i2, zv, hi2, hzv, _, hzl, hzR, _⟩ := zeroT_sound (N := N) (w := w) (fix := G.fix) (hp := G.heap) hz
 have : i2 = i := by rw [hi] at hi2; simpa using hi2.symm
 subst this
 subst hisz
 have hzs : zv.cells.size = i2.size := by have := hzR.1; simp at this; omega
 have hby : P.bytesOf e = i2.bytes := by simp [Program.bytesOf, hi]
 rw [hby] at hbytes
 obtain ⟨G1, hf1, hext1, hbox1, hfix1, hheap1, hvr, htaken, _, hgen, _⟩ := tk_sound hE hs' hf htk (keyD (cDst vs o.dst) j)
 obtain ⟨olds, hRs, hcs⟩ := list_cells hvr hh1
 have hroom : Room w G1 (keyD (cDst vs o.dst) j) (a.eval s) es := htaken
 have hop' : ∀ v w', (Builtin.append_ #[ts, tx] o.type #[a.eval s, a.eval x]).run P w = .ok v w' → (execOp a.eval o).run P w = .ok (.value v) w' := by
  intro v w' hr
  simp [execOp, hop, resolve, invoke, builtin, hr]
 have hRx1 : ListR N w G1.fix G1.heap i2.size news xs := by rw [hfix1, hheap1]; exact hRx
 have hRs1 : ListR N w G1.fix G1.heap i2.size olds es := by rw [hfix1, hheap1]; exact hRs
 have hvr1 : VR N w G1.fix G1.heap (a.eval s) (.list true es) := by rw [hfix1, hheap1]; exact hvr
 have finish : ∀ (v : Value) (w' : World) (G' : GS), (Builtin.append_ #[ts, tx] o.type #[a.eval s, a.eval x]).run P w = .ok v w' → Ext w G1 w' G' → Keep (fun k => k = keyD (cDst vs o.dst) j) w G1 w' G' →
   (∀ g b, G'.box g = some b → G1.box g = some b) → (∀ b k, G'.ow b = some k → b < w'.heap.size) → (∀ b o, G'.fix b o → b < w'.heap.size) → G'.heap = G1.heap → VR N w' G'.fix G'.heap v (.list true (es ++ xs)) → Room w' G' (keyD (cDst vs o.dst) j) v (es ++ xs) →
   o.wp P a w next Q := by
  intro v w' G' hr hext hkeep hbx how hfx hh hv hrm
  unfold Oper.wp
  rw [hop' v w' hr]
  refine hk _ _ G' (hf1.extDst nm (cDst_ok ho) hdst hext hkeep ?_ how hfx hh (SR.own hv hrm)) (hext1.trans hext) (put_size _ _ _)
  intro g b hb
  exact hf1.gen g b (hbx g b hb)
 by_cases hgrow : ∃ base cap, a.eval s = .slice base es.length cap ∧ cap < es.length + xs.length
 ·skip
  obtain ⟨base, cap, hv, hcap⟩ := hgrow
  have hold : (Builtin.firstCells i2.size es.length (.slice base es.length cap)).run P w.drew = .ok olds.toArray w.drew := by
   rcases hcs with ⟨h1, h2, h3⟩ | ⟨ad, cap', h1, h2, h3⟩ | ⟨b, off, cap', h1, h2, h3⟩
   ·rw [hv] at h1; simp at h1
    obtain ⟨rfl, _, rfl⟩ := h1
    subst h3
    exact run_firstCells_none w.drew _ _ _ _
   ·rw [hv] at h1; simp at h1
    obtain ⟨rfl, _, rfl⟩ := h1
    subst h3
    rw [h2]
    exact run_firstCells_some w.drew _ _ _ _ _ [] (by simp) (by simp)
   ·rw [hv] at h1; simp at h1
    obtain ⟨rfl, rfl⟩ := h1
    exact run_firstCells_some w.drew _ _ _ _ _ olds hRs.len (fun j u hu => by rw [addr_add]; exact (h3 j u hu).1)
  have hfit : Builtin.nextslicecap (es.length + xs.length) cap * i2.bytes ≤ 281474976710656 := by
   exact growslice_fits hcap hbytes
  have hrun := run_append_grow_src (P := P) w ts tx o.type e i2 zv hts hi hzv base es.length cap olds hold (a.eval x) xs.length news hsrc hcap (by omega) hfit
  rw [← hv] at hrun
  have hnofix : ∀ o, ¬ G1.fix w.heap.size o := fun o h => by have := hf1.fixlt _ _ h; omega
  have hnc := grownCap_ge w (es.length + xs.length) cap e
  let CS : Array Value := (olds ++ news).toArray ++ Builtin.zeroCells zv.cells (grownCap w (es.length + xs.length) cap e - (es.length + xs.length))
  let G' : GS := { G1 with fix := fun b o => G1.fix b o ∨ (b = w.heap.size ∧ o < (es.length + xs.length) * i2.size), ow := fun b => if b = w.heap.size then some (keyD (cDst vs o.dst) j) else G1.ow b }
  have hR := hRs1.append hRx1 hs0
  have hCS : CS.size = grownCap w (es.length + xs.length) cap e * i2.size := by
   simp only [CS, Array.size_append, List.size_toArray, size_zeroCells, hzs, hR.len, List.length_append]
   rw [Nat.sub_mul]
   have : (es.length + xs.length) * i2.size ≤ grownCap w (es.length + xs.length) cap e * i2.size := Nat.mul_le_mul_right _ hnc
   omega
  have hext : Ext w G1 (w.drew.alloc (.cells CS e)) G' := by
   refine ⟨rfl, rfl, rfl, by simp, fun b hb _ => alloc_heap_old (w := w.drew) hb, fun b o h => ⟨.inl h, alloc_cell_old (w := w.drew) (hf1.fixlt _ _ h)⟩, ?_, ?_, fun _ _ h => h, .same fun k hk => alloc_heap_old (w := w.drew) hk, rfl⟩
   ·rintro b o (h | h)
    ·exact .inl h
    ·exact .inr (.inl (by omega))
   ·intro b hb
    simp only [G'] at hb
    split at hb
    ·exact .inl (by omega)
    ·exact .inr hb
  refine finish _ _ G' hrun hext ?_ (fun _ _ h => h) ?_ ?_ rfl ?_ ?_
  ·refine ⟨?_, fun _ _ h => h⟩
   intro b k hb _
   have hlt := hf1.owlt _ _ hb
   refine ⟨?_, alloc_heap_old (w := w.drew) hlt, ?_⟩
   ·simp only [G']; rw [if_neg (by omega)]; exact hb
   ·rintro o (h | h)
    ·exact h
    ·omega
  ·intro b k hb
   simp only [G'] at hb
   split at hb
   ·simp; omega
   ·have := hf1.owlt _ _ hb; simp; omega
  ·rintro b o (h | h)
   ·have := hf1.fixlt _ _ h; simp; omega
   ·simp; omega
  ·have hlen2 : (es ++ xs).length = es.length + xs.length := by simp
   have hfin : VR N (w.drew.alloc (.cells CS e)) G'.fix G'.heap (.slice (some ⟨w.heap.size, 0, none⟩) (es ++ xs).length (grownCap w (es.length + xs.length) cap e)) (.list true (es ++ xs)) := ?_
   ·rw [hlen2] at hfin; exact hfin
   refine list_mk (hR.mono hext.fix hext.heap hext.shape) (by rw [hlen2]; exact hnc) ?_
   intro j' u' hu
   have hlt : j' < (olds ++ news).length := (List.getElem?_eq_some_iff.1 hu).1
   refine ⟨?_, .inr ⟨rfl, by rw [hR.len, hlen2] at hlt; omega⟩⟩
   rw [Nat.zero_add]
   have := World.cell?_alloc_new w.drew CS e j'
   refine this.trans ?_
   simp only [CS]
   rw [Array.getElem?_append_left (by simpa using hlt)]
   simpa using hu
  ·refine .inr ⟨by simp [G'], i2.size, CS, e, hR.sz, .of (alloc_heap_new (w := w.drew)), by rw [hCS]; simp, by omega, ?_⟩
   rintro o' ho' (h | h)
   ·exact hnofix _ h
   ·simp at ho'; omega
 ·skip
  have hcase : ∃ base cap, a.eval s = .slice base es.length cap := by
   rcases hcs with ⟨h1, h2, _⟩ | ⟨ad, cap, h1, h2, _⟩ | ⟨b, off, cap, h1, _⟩
   ·exact ⟨none, 0, by rw [h1, h2]; rfl⟩
   ·exact ⟨some ad, cap, by rw [h1, h2]; rfl⟩
   ·exact ⟨_, cap, h1⟩
  obtain ⟨base, cap, hv⟩ := hcase
  have hle : es.length + xs.length ≤ cap := by
   rcases Nat.lt_or_ge cap (es.length + xs.length) with h | h
   ·exact absurd ⟨base, cap, hv, h⟩ hgrow
   ·exact h
  by_cases hx0 : xs = []
  ·subst hx0
   have hnil : news = [] := by have := hRx.len; simpa using this
   subst hnil
   have hrun : (Builtin.append_ #[ts, tx] o.type #[a.eval s, a.eval x]).run P w = .ok (a.eval s) w := by
    rw [hv]
    have hle' : es.length ≤ cap := by simpa using hle
    have hl0 : (Builtin.lenOf (a.eval x)).run P w = .ok 0 w := by simpa using hsrc.len w
    have hc0 : (Builtin.firstCells i2.size 0 (a.eval x)).run P w = .ok #[] w := by simpa using hsrc.cells
    rcases hsrc.kind with ⟨e'', hk'⟩ | hk' <;>
     cases base <;> simp [Builtin.append_, run_underlying hts, run_underlying hk', Go.sizeOf, typeInfo, hi, hl0, hle', hc0, storeCells]
   refine finish _ w G1 hrun (Ext.refl _ _) ⟨fun b k h _ => ⟨h, rfl, fun _ h => h⟩, fun _ _ h => h⟩ (fun _ _ h => h) hf1.owlt hf1.fixlt rfl (by simpa using hvr1) (by simpa using hroom)
  ·skip
   have hxl : 0 < xs.length := List.length_pos_iff.2 hx0
   rcases hcs with ⟨h1, h2, _⟩ | ⟨ad, cap', h1, h2, _⟩ | ⟨b, off, cap', h1, h2, h3⟩
   ·rw [hv] at h1; simp at h1; omega
   ·have hbc : base = some ad ∧ cap = cap' := by rw [hv, h2] at h1; simpa using h1
    obtain ⟨rfl, rfl⟩ := hbc
    rw [hv] at hroom
    rw [h2] at hroom hle
    rcases hroom with hroom | ⟨_, _, _, _, _, _, _, hpos, _⟩
    ·simp at hle hroom; omega
    ·simp at hpos
   ·have hbc : base = some ⟨b, off, none⟩ ∧ cap = cap' := by rw [hv] at h1; simpa using h1
    obtain ⟨rfl, rfl⟩ := hbc
    rw [hv] at hroom
    rcases hroom with hroom | ⟨how, sz, cur, T, hsz, ⟨fz, hheap, hfzn⟩, hfit, hpos, hfree⟩
    ·omega
    ·have hszz : sz = i2.size := by
      cases es with
      | nil => simp at hpos
      | cons y ys => have := hsz y (by simp); have := hRs.sz y (by simp); omega
     subst hszz
     simp only at how hheap hfit hfree hfzn
     have hcs2 : off + es.length * i2.size + news.length ≤ cur.size := by
      rw [hRx.len]
      have : (es.length + xs.length) * i2.size ≤ cap * i2.size := Nat.mul_le_mul_right _ hle
      rw [Nat.add_mul] at this; omega
     let NR : Array Value := (cur.toList.take (off + es.length * i2.size) ++ news ++ cur.toList.drop (off + es.length * i2.size + news.length)).toArray
     have hrun : (Builtin.append_ #[ts, tx] o.type #[a.eval s, a.eval x]).run P w = .ok (.slice (some ⟨b, off, none⟩) (es.length + xs.length) cap) (w.setRow b NR) := by
      have hst := run_storeCells_live P b (off + es.length * i2.size) T fz news 0 cur w hheap hfzn (by simpa using hcs2) (hRx.one hs0)
      simp only [Nat.add_zero] at hst
      rw [hv]
      rcases hsrc.kind with ⟨e'', hk'⟩ | hk' <;>
       simp [Builtin.append_, run_underlying hts, run_underlying hk', Go.sizeOf, typeInfo, hi, hsrc.len, hle, hsrc.cells, addr_add, hst, NR]
     have hblt : b < w.heap.size := hf1.owlt _ _ how
     have hother : ∀ x, x ≠ b → (w.setRow b NR).heap[x]? = w.heap[x]? := fun x hx => setRow_other w b x _ hx
     let G' : GS := { G1 with fix := fun b' o => G1.fix b' o ∨ (b' = b ∧ off + es.length * i2.size ≤ o ∧ o < off + (es.length + xs.length) * i2.size) }
     have hNRs : NR.size = cur.size := by simp only [NR, List.size_toArray, List.length_append, List.length_take, List.length_drop, Array.length_toList]; omega
     have hNR : ∀ k, k < off + es.length * i2.size → NR[k]? = cur[k]? := by
      intro k hk
      simp only [NR, List.getElem?_toArray, List.append_assoc]
      rw [List.getElem?_append_left (by simp; omega), List.getElem?_take, if_pos hk]
      simp
     have hNR2 : ∀ k, k < news.length → NR[off + es.length * i2.size + k]? = news[k]? := by
      intro k hk
      have hl : (cur.toList.take (off + es.length * i2.size)).length = off + es.length * i2.size := by simp; omega
      simp only [NR, List.getElem?_toArray, List.append_assoc]
      rw [List.getElem?_append_right (by omega), hl, List.getElem?_append_left (by omega)]
      congr 1; omega
     have hcellb : ∀ k, (w.setRow b NR).cell? ⟨b, k, none⟩ = NR[k]? := fun k => cell_setRow_same w b k cur NR T fz hheap
     have hext : Ext w G1 (w.setRow b NR) G' := by
      refine ⟨rfl, rfl, rfl, by simp [World.setRow], ?_, ?_, ?_, fun _ h => .inr h, fun _ _ h => h, shape_setRow hheap _ hNRs, rfl⟩
      ·intro y _ hyo
       exact hother y (by rintro rfl; rw [how] at hyo; simp at hyo)
      ·intro y o' hfx
       refine ⟨.inl hfx, ?_⟩
       by_cases hyb : y = b
       ·subst hyb
        have hlt : o' < off + es.length * i2.size := by
         rcases Nat.lt_or_ge o' (off + es.length * i2.size) with h | h
         ·exact h
         ·exact absurd hfx (hfree o' h)
        rw [hcellb, hNR o' hlt]
        simp [World.cell?, hheap]
       ·simp only [World.cell?, hother y hyb]
      ·rintro y o' (h | h)
       ·exact .inl h
       ·exact .inr (.inr (by rw [h.1, how]; simp))
     refine finish _ _ G' hrun hext ?_ (fun _ _ h => h) (fun y k hy => by simpa [World.setRow] using hf1.owlt y k hy) ?_ rfl ?_ ?_
     ·refine ⟨?_, fun _ _ h => h⟩
      intro y k hy hnk
      have hyb : y ≠ b := by rintro rfl; rw [how] at hy; simp at hy; exact hnk hy.symm
      refine ⟨hy, hother y hyb, ?_⟩
      rintro o' (h | h)
      ·exact h
      ·exact absurd h.1 hyb
     ·rintro y o' (h | h)
      ·simpa [World.setRow] using hf1.fixlt _ _ h
      ·simp [World.setRow]; omega
     ·have hlen2 : (es ++ xs).length = es.length + xs.length := by simp
      rw [← hlen2]
      refine list_mk ((hRs1.append hRx1 hs0).mono hext.fix hext.heap hext.shape) (by rw [hlen2]; exact hle) ?_
      intro k u' hu
      by_cases hk1 : k < olds.length
      ·rw [List.getElem?_append_left hk1] at hu
       obtain ⟨c1, c2⟩ := h3 k u' hu
       have := hext.fix b (off + k) (by rw [hfix1]; exact c2)
       exact ⟨this.2.trans c1, this.1⟩
      ·rw [List.getElem?_append_right (by omega)] at hu
       have hlt : k - olds.length < news.length := (List.getElem?_eq_some_iff.1 hu).1
       have he : off + k = off + es.length * i2.size + (k - olds.length) := by have := hRs.len; omega
       refine ⟨?_, .inr ⟨rfl, ?_, ?_⟩⟩
       ·rw [hcellb, he, hNR2 _ hlt]; exact hu
       ·rw [he]; omega
       ·rw [he, Nat.add_mul]; have := hRx.len; omega
     ·refine .inr ⟨how, i2.size, NR, T, ?_, ⟨fz, setRow_heap w b cur NR T fz hheap, fun o ho => hfzn o (by rw [← hNRs]; exact ho)⟩, ?_, by omega, ?_⟩
      ·intro y hy
       rcases List.mem_append.1 hy with hy | hy
       ·exact hRs.sz y hy
       ·exact hRx.sz y hy
      ·simp only [NR, List.size_toArray, List.length_append, List.length_take, List.length_drop, Array.length_toList]; omega
      ·rintro o' ho' (h | h)
       ·refine hfree o' ?_ h
        simp only [List.length_append, Nat.add_mul] at ho'
        omega
       ·simp only [List.length_append, Nat.add_mul] at ho'
        have := h.2.2
        rw [Nat.add_mul] at this
        omega
theorem append_sound (hE : EnvOk E N) (nm : Names vs (lmap vs ops)) (ho : ops[j]? = some o) (hf : FI N w G st a vs (lmap vs ops)) {ts tx e e' : TypeId} {size : Nat} {z : List PV} {s x : Operand} {ps px : PX}
  (hop : o.op = .call { callee := .builtin .append, args := #[s, x], argTypes := #[ts, tx] }) (hdst : cDst vs o.dst ≠ .n) (hts : P.underlying ts = some (.slice e)) (htx : P.underlying tx = some (.slice e')) (hn : sizeT P e = some size) (hz : zeroT P e = some z)
  (hs' : cx E vs ops s = some ps) (hx : cx E vs ops x = some px) {cf : CallF} (hs : opv cf (.append size (P.bytesOf e) ps px) st = some (u, st1)) (hk : Goes N w G a st1 u vs ops j o next) : o.wp P a w next Q := by
 simp only [opv] at hs
 split at hs
 ·rename_i xs es st' hrd0 htk
  split at hs
  ·rename_i hcond
   obtain ⟨hh1, hh2, hroomy⟩ := hcond
   have hlen : es.length + xs.length ≤ 9223372036854775807 := by rcases hroomy with ⟨h, _⟩ | ⟨h, _⟩ <;> omega
   have hbytes : (es.length + xs.length) * P.bytesOf e ≤ 140737488355328 := by
    rcases hroomy with ⟨h, h'⟩ | ⟨_, h⟩
    ·exact Nat.le_trans (Nat.mul_le_mul h h') (by decide)
    ·exact h
   simp only [Option.some.injEq, Prod.mk.injEq] at hs
   obtain ⟨rfl, rfl⟩ := hs
   simp only [Option.bind_eq_some_iff] at hrd0
   obtain ⟨px0, hrd, hrow⟩ := hrd0
   have hvx := (rd_sound hE hx hf hrd).1.row hrow
   obtain ⟨news, hRx, hcx⟩ := list_cells hvx hh2
   obtain ⟨_, _, _, _, hs0, _⟩ := info_underlying hn
   have hsrc : Src P size tx (a.eval x) xs.length news w := by
    rcases hcx with ⟨h1, h2, h3⟩ | ⟨ad, cap, h1, h2, h3⟩ | ⟨b, off, cap, h1, h2, h3⟩
    ·rw [h1, h2, h3]; exact Src.ofNil w htx 0
    ·rw [h1, h2, h3]; exact Src.ofSlice w htx ad 0 cap [] (by simp) (by simp) (by simp)
    ·rw [h1]
     exact Src.ofSlice w htx ⟨b, off, none⟩ xs.length cap news hRx.len (fun j u hu => by rw [addr_add]; exact (h3 j u hu).1) (hRx.one hs0)
   exact append_core hE nm ho hf hop hdst hts hn hz hs' htk hh1 hlen hbytes hRx hsrc hk
  ·simp at hs
 ·simp at hs
theorem ofBytes_R (fix : Nat → Nat → Prop) (hp : Nat → Option Nat) (s : ByteArray) : ListR N w fix hp 1 (byteCells s) (ofBytes s.data.toList) := by
 refine ⟨by rw [byteCells_length, Nat.mul_one]; simp only [ofBytes, List.length_map, Array.length_toList]; rfl, ?_, ?_, ?_⟩
 ·intro e he
  obtain ⟨b, _, rfl⟩ := List.mem_map.1 he
  rfl
 ·intro e he x hx
  obtain ⟨b, _, rfl⟩ := List.mem_map.1 he
  simp only [PV.cells, List.mem_singleton] at hx
  subst hx; rfl
 ·intro i e he k c x hc hx
  simp only [ofBytes, List.getElem?_map, Option.map_eq_some_iff] at he
  obtain ⟨b, hb, rfl⟩ := he
  cases k with
  | zero =>
    simp only [PV.cells, List.getElem?_cons_zero, Option.some.injEq] at hx
    subst hx
    simp only [byteCells, Nat.mul_one, Nat.add_zero, List.getElem?_map, Option.map_eq_some_iff] at hc
    obtain ⟨b', hb', rfl⟩ := hc
    rw [hb] at hb'; cases hb'
    exact .int _ _
  | succ k => simp [PV.cells] at hx
theorem ofBytes_len (s : List UInt8) : (ofBytes s).length = s.length := by simp [ofBytes]
theorem appstr_sound (hE : EnvOk E N) (nm : Names vs (lmap vs ops)) (ho : ops[j]? = some o) (hf : FI N w G st a vs (lmap vs ops)) {ts tx e : TypeId} {z : List PV} {s x : Operand} {ps px : PX}
  (hop : o.op = .call { callee := .builtin .append, args := #[s, x], argTypes := #[ts, tx] }) (hdst : cDst vs o.dst ≠ .n) (hts : P.underlying ts = some (.slice e)) (htx : P.underlying tx = some .string) (hn : sizeT P e = some 1) (hz : zeroT P e = some z) (hb1 : P.bytesOf e = 1)
  (hs' : cx E vs ops s = some ps) (hx : cx E vs ops x = some px) {cf : CallF} (hs : opv cf (.appstr ps px) st = some (u, st1)) (hk : Goes N w G a st1 u vs ops j o next) : o.wp P a w next Q := by
 simp only [opv] at hs
 split at hs
 ·rename_i xs es st' hrd htk
  split at hs
  ·rename_i hcond
   obtain ⟨hh1, hlen⟩ := hcond
   simp only [Option.some.injEq, Prod.mk.injEq] at hs
   obtain ⟨rfl, rfl⟩ := hs
   have hvx := (rd_sound hE hx hf hrd).1
   generalize hv : a.eval x = v at hvx
   cases hvx with
   | str s0 =>
     have hl : (ofBytes s0.data.toList).length = s0.size := by simp only [ofBytes, List.length_map, Array.length_toList]; rfl
     have hl2 : s0.data.toList.length = s0.size := Array.length_toList
     refine append_core (xs := ofBytes s0.data.toList) (news := byteCells s0) hE nm ho hf hop hdst hts hn hz hs' htk hh1 (by omega) (by rw [hb1]; omega) (ofBytes_R _ _ _) ?_ hk
     rw [hv, hl]
     exact Src.ofString w htx s0
  ·simp at hs
 ·simp at hs
/-- The bytes of a row, in memory. -/
theorem bytesOf_cells {fix : Nat → Nat → Prop} {hp : Nat → Option Nat} {v : Value} {es : List PV} {bs : List UInt8} (h : VR N w fix hp v (.list false es)) (hb : bytesOf es = some bs) :
  (∃ l c, v = .slice none l c ∧ bs = []) ∨ ∃ ad c, v = .slice (some ad) bs.length c ∧ ((bs = []) ∨ (ad.spot = none ∧ ∀ i, i < bs.length → w.cell? ⟨ad.block, ad.off + i, none⟩ = some (.int .u8 ((bs.map fun b => (b.toNat : Int)).getD i 0)))) := by
 have key : ∀ {es : List PV} {bs : List UInt8}, bytesOf es = some bs → es.length = bs.length ∧ ∀ (i : Nat) (e : PV), es[i]? = some e → e = .int .u8 ((bs.map fun b => (b.toNat : Int)).getD i 0) := by
  intro es
  induction es with
  | nil => intro bs h; simp [bytesOf] at h; subst h; simp
  | cons x xs ih =>
    intro bs h
    unfold bytesOf at h
    split at h
    ·rename_i h0; simp at h0
    ·rename_i n r h0
     simp only [List.cons.injEq] at h0
     obtain ⟨rfl, rfl⟩ := h0
     split at h
     ·rename_i hn
      simp only [Option.map_eq_some_iff] at h
      obtain ⟨bs', h1, rfl⟩ := h
      obtain ⟨k1, k2⟩ := ih h1
      refine ⟨by simp [k1], ?_⟩
      intro i e he
      cases i with
      | zero =>
        simp at he; subst he
        have : (UInt8.ofNat n.toNat).toNat = n.toNat := by simp [UInt8.toNat_ofNat']; omega
        simp [this]; omega
      | succ i =>
        have := k2 i e (by simpa using he)
        simpa using this
     ·simp at h
    ·simp at h
 obtain ⟨k1, k2⟩ := key hb
 cases h with
 | nils => simp at k1; exact .inl ⟨_, _, rfl, List.eq_nil_of_length_eq_zero k1.symm⟩
 | void _ ad cap => simp at k1; refine .inr ⟨ad, cap, ?_, .inl (List.eq_nil_of_length_eq_zero k1.symm)⟩; rw [← k1]
 | list _ b off len cap sz _ cv hlen hcap hsz hflat hcell hvr =>
   refine .inr ⟨⟨b, off, none⟩, cap, by rw [← k1, hlen], .inr ⟨rfl, ?_⟩⟩
   intro i hi
   have hlt : i < es.length := by omega
   have he := List.getElem?_eq_getElem hlt
   have hev := k2 i _ he
   have hs1 : sz = 1 := by rw [← hsz _ (List.getElem_mem hlt), hev]; rfl
   subst hs1
   have h1 := hvr i _ he 0 (es[i]) (by rw [hev]; rfl)
   rw [hev] at h1
   have h2 := (hcell i (by omega)).1
   rw [Nat.mul_one, Nat.add_zero] at h1
   generalize hg : cv i = c at h1 h2
   cases h1
   exact h2
theorem strOfNums_ofBytes (bs : List UInt8) : strOfNums (bs.map fun b => (b.toNat : Int)) = ⟨bs.toArray⟩ := by
 have := strOfNums_data (bs.map fun b => (b.toNat : Int))
 have h2 : (strOfNums (bs.map fun b => (b.toNat : Int))).data.toList = bs := by
  rw [this, List.map_map]
  conv => rhs; rw [← List.map_id bs]
  apply List.map_congr_left
  intro b _
  simp
 generalize strOfNums (bs.map fun b => (b.toNat : Int)) = x at h2
 cases x with
 | mk d => simp at h2; subst h2; simp
theorem b2s_sound (hE : EnvOk E N) (nm : Names vs (lmap vs ops)) (ho : ops[j]? = some o) (hf : FI N w G st a vs (lmap vs ops)) {src dst e : TypeId} {x : Operand} {px : PX} (hop : o.op = .convert src dst x)
  (hs1 : P.underlying src = some (.slice e)) (he : P.underlying e = some (.int .u8)) (hd : P.underlying dst = some .string) (hx : cx E vs ops x = some px) {cf : CallF} (hs : opv cf (.b2s px) st = some (u, st1)) (hk : Goes N w G a st1 u vs ops j o next) : o.wp P a w next Q := by
 simp only [opv] at hs
 split at hs
 ·rename_i es hrd
  simp only [Option.map_eq_some_iff, Prod.mk.injEq] at hs
  obtain ⟨bs, hbs, rfl, rfl⟩ := hs
  simp only [Option.bind_eq_some_iff] at hrd
  obtain ⟨p0, hp0, hrow⟩ := hrd
  have hv := (rd_sound hE hx hf hp0).1.row hrow
  have hrun : (convert src dst (a.eval x)).run P w = .ok (.string ⟨bs.toArray⟩) w := by
   rcases bytesOf_cells hv hbs with ⟨l, c, h1, rfl⟩ | ⟨ad, c, h1, h2⟩
   ·rw [h1, run_convert_bytes_nil (w := w) src e hs1 he l c dst hd]; rfl
   ·rw [h1]
    rcases h2 with rfl | ⟨hsp, h2⟩
    ·rw [run_convert_bytes_string w src dst e _ _ _ hs1 he hd]
     have := run_bytesToString (P := P) w ad 0 c [] (by simpa using run_loadCells_list (P := P) w ad [] (by simp))
     exact this
    ·obtain ⟨b, off, sp⟩ := ad
     simp only at hsp; subst hsp
     have := run_convert_bytes_arg (w := w) src e hs1 he b off bs.length c (bs.map fun b => (b.toNat : Int)) (by simp) h2 dst hd
     rw [this, strOfNums_ofBytes]
  refine wp_value (v := .string ⟨bs.toArray⟩) nm ho hf (by simp [execOp, hop, hrun]) (SR.of_pure ?_ rfl) hk
  have := VR.str (N := N) (w := w) (fix := G.fix) (hp := G.heap) ⟨bs.toArray⟩
  simpa using this
 ·simp at hs
theorem sliceLoc_sound (hE : EnvOk E N) (nm : Names vs (lmap vs ops)) (ho : ops[j]? = some o) (hf : FI N w G st a vs (lmap vs ops)) {t e : TypeId} {n : Nat} {x : Operand} {px : PX} (hop : o.op = .slice t x none none none)
  (hu : P.underlying t = some (.array n e)) (hn : sizeT P e = some 1) (hx : cx E vs ops x = some px) {cf : CallF} (hs : opv cf (.sliceLoc n px) st = some (u, st1)) (hk : Goes N w G a st1 u vs ops j o next) : o.wp P a w next Q := by
 simp only [opv] at hs
 split at hs
 ·rename_i i g cs hraw
  split at hs
  ·rename_i hlen
   simp only [Option.some.injEq, Prod.mk.injEq] at hs
   obtain ⟨rfl, rfl⟩ := hs
   have hvi : st.vars[i]? = some (.loc g cs) := hraw
   have hsr := raw_sound hE hx hf hraw
   obtain ⟨b0, i0, hk0, hv, hb0, _⟩ := hsr
   obtain ⟨tt, ht1, ht2, ht3, ht4, cv, T, hh, hl, hc⟩ := box_open hf hvi hb0
   obtain ⟨hR, hcell⟩ := cells_of_box hh hl hc
   let G' : GS := { G with fix := fun b o => G.fix b o ∨ b = b0 }
   have hext : Ext w G w G' := by
    refine ⟨rfl, rfl, rfl, Nat.le_refl _, fun _ _ _ => rfl, fun _ _ h => ⟨.inl h, rfl⟩, ?_, fun _ h => .inr h, fun _ _ h => h, ShapeLe.refl w, rfl⟩
    rintro b o (h | h)
    ·exact .inl h
    ·exact .inr (.inr (by rw [h, ht3]; simp))
   have hkeep : Keep (fun k => k = .var i) w G w G' := by
    refine ⟨?_, fun _ _ h => h⟩
    intro b k hb hnk
    refine ⟨hb, rfl, ?_⟩
    rintro o (h | h)
    ·exact h
    ·subst h; rw [ht3] at hb; simp at hb; exact absurd hb.symm hnk
   have hb0lt := hf.owlt _ _ ht3
   have hf1 : FI N w G' { st with vars := st.vars.set i .dead } a vs (lmap vs ops) := by
    refine ⟨by simp [hf.len], ?_, fun j' t' u' h1 h2 => (hf.loc j' t' u' h1 h2).keep hext hkeep (by simp) (by simp), hf.tv, hf.tl, hf.defers, hf.gen, hf.owlt, ?_, hf.heap.keep hext hkeep (by rintro k hk rfl; simp [Key.isH] at hk), hf.hdom⟩
    ·intro i' t' u' h1 h2
     simp only [List.getElem?_set] at h2
     split at h2
     ·split at h2
      ·simp at h2; subst h2; trivial
      ·simp at h2
     ·rename_i hi
      exact (hf.var i' t' u' h1 h2).keep hext hkeep (by simp; omega) (by simp)
    ·rintro b o (h | h)
     ·exact hf.fixlt _ _ h
     ·omega
   have hrun : (execOp a.eval o).run P w = .ok (.value (.slice (some ⟨b0, 0, none⟩) n n)) w := by
    have hz : (if n = 0 then (⟨b0, 0, none⟩ : Addr) else (⟨b0, 0, none⟩ : Addr).add (0 * 1)) = ⟨b0, 0, none⟩ := by simp [addr_add]
    simp [execOp, hop, hv, Instr.sliceAt, run_underlying hu, Instr.sureAddr, Instr.sliceBounds, run_sizeT hn, hz]
   unfold Oper.wp
   rw [hrun]
   refine hk _ _ G' (hf1.put nm (cDst_ok ho) ⟨?_, .inl rfl⟩) hext (put_size _ _ _)
   have hfl : ∀ x ∈ cs, x.cells = [x] := by
    intro x hx
    have := hR.2.1 x hx
    cases x <;> first | rfl | simp [PV.flat] at this
   rw [← hlen]
   refine list_mk (size := 1) (news := cv.toList) ⟨?_, ?_, ?_, ?_⟩ (Nat.le_refl _) ?_
   ·simpa using hl
   ·intro e he; rw [hfl e he]; rfl
   ·intro e he y hy; rw [hfl e he] at hy; simp at hy; subst hy; exact hR.2.1 _ he
   ·intro k e he m c y hcc hy
    rw [hfl e (List.mem_of_getElem? he)] at hy
    have hm : m = 0 := by
     cases m with
     | zero => rfl
     | succ m => simp at hy
    subst hm
    simp at hy; subst hy
    exact (hR.2.2 k c _ (by simpa using hcc) he).ext hext
   ·intro k v hv'
    exact ⟨by rw [Nat.zero_add]; exact hcell k v hv', .inr rfl⟩
  ·simp at hs
 ·simp at hs
end
end PI
