/-
  The pure interpreter is right, 1: operands, places, and the operations that only read.
-/
import Derived.Test.YtaejhojielbbdaaGreatDoorPiRel
import Derived.Test.YtaejhojielbbdaaGreatDoorPiComp
import Derived.Deep.AppendSrc
import Derived.Laws.CopyRow
import Derived.Laws.Build
set_option linter.unusedVariables false
set_option linter.unusedSimpArgs false
set_option linter.unusedSectionVars false
namespace PI
open Go
structure FI (N : Nm) (w : World) (G : GS) (st : St) (a : Act) (vs : List Tmp) (lm : Nat → Option Tmp) : Prop where
 len : st.vars.length = vs.length
 var : ∀ (i : Nat) (t : Tmp) (u : PV), vs[i]? = some t → st.vars[i]? = some u → SR N w G (.var i) (a.eval (.tmp t)) u
 loc : ∀ (j : Nat) (t : Tmp) (u : PV), lm j = some t → st.locs[j]? = some u → SR N w G (.loc j) (a.eval (.tmp t)) u
 tv : ∀ (i : Nat) (t : Tmp), vs[i]? = some t → t < a.tmps.size
 tl : ∀ (j : Nat) (t : Tmp), lm j = some t → t < a.tmps.size
 defers : a.defers = G.df
 gen : ∀ g b, G.box g = some b → g < st.gen
 owlt : ∀ b k, G.ow b = some k → b < w.heap.size
 fixlt : ∀ b o, G.fix b o → b < w.heap.size
 heap : HR N w G st.heap
 hdom : ∀ n b, G.heap n = some b → n < st.heap.length
structure Names (vs : List Tmp) (lm : Nat → Option Tmp) : Prop where
 vnd : ∀ (i i' : Nat) (t : Tmp), vs[i]? = some t → vs[i']? = some t → i = i'
 sep : ∀ (j : Nat) (t : Tmp) (i : Nat), lm j = some t → vs[i]? ≠ some t
 lnd : ∀ (j j' : Nat) (t : Tmp), lm j = some t → lm j' = some t → j = j'
def lmap (vs : List Tmp) (ops : List Oper) (j : Nat) : Option Tmp :=
 match ops[j]? with
 | some o => match o.dst with
   | some t => if (idxIn t vs 0).isSome then none else some t
   | none => none
 | none => none
structure EnvOk (E : Env) (N : Nm) : Prop where
 fn : ∀ f k, E.inv f = some k → N.fn k = f
 yl : ∀ f k, E.inv f = some k → N.yl k = none
 pt : ∀ T i, idxIn T E.pt 0 = some i → N.ty (i + 1) = T
 bt : ∀ t, E.bT = some t → N.bT = t ∧ ∃ i, E.P.info? t = some i ∧ i.zero = some (.agg #[.pointer none, .slice none 0 0])
theorem shape_setRow {w : World} {b : Nat} {cv : Array Value} {T : TypeId} {fz : Nat × Nat} (hh : w.heap[b]? = some (.cells cv T fz)) (NR : Array Value) (hs : NR.size = cv.size) : ShapeLe w (w.setRow b NR) :=
 .one b (fun k _ hk => setRow_other w b k _ hk) (fun s hx => by
  simp only [World.shape?, hh] at hx
  simp only [World.shape?, setRow_heap w b cv NR T fz hh, hs]
  exact hx) (fun s hx => by rw [loopOf_cells hh] at hx; simp at hx)
/-! ### Constants -/
theorem constFlat_sound {N : Nm} {w : World} {fix : Nat → Nat → Prop} {hp : Nat → Option Nat} {v : Value} {p : PV} (h : constFlat v = some p) :
  VR N w fix hp v p ∧ p.flat = true := by
 unfold constFlat at h
 split at h <;> simp at h <;> subst h <;> refine ⟨?_, rfl⟩ <;> constructor
theorem constAll_sound {N : Nm} {w : World} {fix : Nat → Nat → Prop} {hp : Nat → Option Nat} : ∀ {vs : List Value} {ps : List PV}, constAll vs = some ps →
  vs.length = ps.length ∧ (∀ p ∈ ps, p.flat = true) ∧ ∀ (i : Nat) (v : Value) (p : PV), vs[i]? = some v → ps[i]? = some p → VR N w fix hp v p
 | [], ps, h => by simp [constAll] at h; subst h; simp
 | v :: vs, ps, h => by
   simp only [constAll, Option.bind_eq_some_iff, Option.map_eq_some_iff] at h
   obtain ⟨p, hp1, qs, hq, rfl⟩ := h
   obtain ⟨h1, h2, h3⟩ := constAll_sound (N := N) (w := w) (fix := fix) (hp := hp) hq
   have hv := constFlat_sound (N := N) (w := w) (fix := fix) (hp := hp) hp1
   refine ⟨by simp [h1], by simpa using ⟨hv.2, h2⟩, ?_⟩
   intro i x y hx hy
   cases i with
   | zero => simp at hx hy; subst hx hy; exact hv.1
   | succ i => exact h3 i x y (by simpa using hx) (by simpa using hy)
theorem constAll_own : ∀ {vs : List Value} {ps : List PV}, constAll vs = some ps → ∀ (i : Nat) (v : Value) (es : List PV), vs[i]? = some v → ps[i]? = some (.list true es) → v = .slice none 0 0
 | [], ps, h, i, v, es, h1, _ => by simp at h1
 | x :: xs, ps, h, i, v, es, h1, h2 => by
   simp only [constAll, Option.bind_eq_some_iff, Option.map_eq_some_iff] at h
   obtain ⟨p, hp1, qs, hq, rfl⟩ := h
   cases i with
   | zero =>
     simp at h1 h2; subst h1 h2
     unfold constFlat at hp1
     split at hp1 <;> simp at hp1
     rfl
   | succ i => exact constAll_own hq i v es (by simpa using h1) (by simpa using h2)
theorem constPV_sound {N : Nm} {w : World} {fix : Nat → Nat → Prop} {hp : Nat → Option Nat} {v : Value} {p : PV} (h : constPV v = some p) :
  VR N w fix hp v p := by
 unfold constPV at h
 split at h
 ·rename_i cs
  simp only [Option.map_eq_some_iff] at h
  obtain ⟨ps, h1, rfl⟩ := h
  obtain ⟨a, b, c⟩ := constAll_sound (N := N) (w := w) (fix := fix) (hp := hp) h1
  exact .agg cs ps (by simpa using a) b (fun i x es hx hy => constAll_own h1 i x es (by simpa using hx) hy) (fun i x y hx hy => c i x y (by simpa using hx) hy)
 ·exact (constFlat_sound h).1
theorem constPV_form {v : Value} {p : PV} (h : constPV v = some p) : (∃ es, p = .list true es ∧ v = .slice none 0 0) ∨ cp p = some p := by
 unfold constPV at h
 split at h
 ·simp only [Option.map_eq_some_iff] at h
  obtain ⟨ps, _, rfl⟩ := h
  exact .inr rfl
 ·unfold constFlat at h
  split at h <;> simp at h <;> subst h <;> first | exact .inr rfl | exact .inl ⟨_, rfl, rfl⟩
/-! ### Places -/
theorem idxIn_some {t : Tmp} : ∀ {vs : List Tmp} {n i : Nat}, idxIn t vs n = some i → n ≤ i ∧ vs[i - n]? = some t
 | [], n, i, h => by simp [idxIn] at h
 | x :: xs, n, i, h => by
   simp only [idxIn] at h
   split at h
   ·simp at h; subst h; subst_vars; simp
   ·obtain ⟨h1, h2⟩ := idxIn_some h
    refine ⟨by omega, ?_⟩
    rw [show i - n = (i - (n + 1)) + 1 by omega]
    simpa using h2
theorem idxIn_none {t : Tmp} : ∀ {vs : List Tmp} {n : Nat}, idxIn t vs n = none → ∀ i : Nat, vs[i]? ≠ some t
 | [], n, _, i => by simp
 | x :: xs, n, h, i => by
   simp only [idxIn] at h
   split at h
   ·simp at h
   ·cases i with
    | zero => simpa using by assumption
    | succ i => simpa using idxIn_none h i
theorem dstIn_some {t : Tmp} : ∀ {ops : List Oper} {n j : Nat}, dstIn t ops n = some j → n ≤ j ∧ ∃ o, ops[j - n]? = some o ∧ o.dst = some t
 | [], n, j, h => by simp [dstIn] at h
 | o :: os, n, j, h => by
   simp only [dstIn] at h
   split at h
   ·simp at h; subst h; exact ⟨Nat.le_refl _, o, by simp, by assumption⟩
   ·obtain ⟨h1, o', h2, h3⟩ := dstIn_some h
    refine ⟨by omega, o', ?_, h3⟩
    rw [show j - n = (j - (n + 1)) + 1 by omega]
    simpa using h2
def keyX : PX → Key
 | .v i => .var i
 | .l j => .loc j
 | .c _ => .loc 0
section
variable {E : Env} {N : Nm} {w : World} {G : GS} {st : St} {a : Act} {vs : List Tmp} {ops : List Oper}
theorem SR.of_pure {key : Key} {v : Value} {u : PV} (h : VR N w G.fix G.heap v u) (hu : cp u = some u) : SR N w G key v u := by
 unfold SR
 split <;> first | trivial | (simp [cp] at hu; done) | exact h
/-- What a place holds, read. -/
theorem SR.read {key : Key} {v : Value} {u r : PV} (h : SR N w G key v u) (hr : cp u = some r) : VR N w G.fix G.heap v r ∧ cp r = some r := by
 unfold SR at h
 split at h
 ·simp [cp] at hr
 ·simp [cp] at hr
 ·simp [cp] at hr
 ·simp [cp] at hr
 ·simp [cp] at hr; subst hr; exact ⟨h.1.dem, rfl⟩
 ·have : r = dem u ∧ cp r = some r := by
   clear h
   cases u <;> simp [cp] at hr <;> subst hr <;> exact ⟨rfl, rfl⟩
  rw [this.1]
  exact ⟨h.dem, this.1 ▸ this.2⟩
theorem raw_sound (hE : EnvOk E N) {x : Operand} {px : PX} {u : PV} (hc : cx E vs ops x = some px) (hf : FI N w G st a vs (lmap vs ops)) (hr : raw st px = some u) :
  SR N w G (keyX px) (a.eval x) u := by
 cases x with
 | tmp t =>
   simp only [cx] at hc
   split at hc
   ·rename_i i hi
    simp at hc; subst hc
    obtain ⟨_, h2⟩ := idxIn_some hi
    exact hf.var i t u (by simpa using h2) hr
   ·rename_i hn
    simp only [Option.map_eq_some_iff] at hc
    obtain ⟨j, hj, rfl⟩ := hc
    obtain ⟨_, o, h2, h3⟩ := dstIn_some hj
    refine hf.loc j t u ?_ hr
    simp only [Nat.sub_zero] at h2
    simp [lmap, h2, h3, hn]
 | const v =>
   simp only [cx] at hc
   split at hc
   ·rename_i hnl
    simp only [Option.some.injEq] at hc
    subst hc
    simp only [raw, Option.some.injEq] at hr
    subst hr
    have hnil : v = .slice none 0 0 := by
     simp only [Bool.and_eq_true] at hnl
     have := hnl.2
     unfold isNilS at this
     split at this
     ·rfl
     ·simp at this
    subst hnil
    exact SR.of_pure .nils' rfl
   simp only [Option.map_eq_some_iff] at hc
   obtain ⟨p, hp, rfl⟩ := hc
   simp only [raw, Option.some.injEq] at hr
   subst hr
   have hv := constPV_sound (N := N) (w := w) (fix := G.fix) (hp := G.heap) hp
   rcases constPV_form hp with ⟨es, rfl, rfl⟩ | h
   ·exact ⟨hv, trivial⟩
   ·exact SR.of_pure hv h
 | global g => simp [cx] at hc
 | func f =>
   simp only [cx, Option.map_eq_some_iff] at hc
   obtain ⟨k, hk, rfl⟩ := hc
   simp only [raw, Option.some.injEq] at hr
   subst hr
   refine SR.of_pure ?_ rfl
   have hky := hE.yl _ _ hk
   have := hE.fn _ _ hk
   subst this
   exact .func k #[] #[] [] [] hky rfl rfl (by simp) (by simp)
theorem rd_sound (hE : EnvOk E N) {x : Operand} {px : PX} {u : PV} (hc : cx E vs ops x = some px) (hf : FI N w G st a vs (lmap vs ops)) (hr : rd st px = some u) :
  VR N w G.fix G.heap (a.eval x) u ∧ cp u = some u := by
 simp only [rd, Option.bind_eq_some_iff] at hr
 obtain ⟨r, h1, h2⟩ := hr
 exact (raw_sound hE hc hf h1).read h2
theorem rdInt_sound (hE : EnvOk E N) {x : Operand} {px : PX} {n : Int} (hc : cx E vs ops x = some px) (hf : FI N w G st a vs (lmap vs ops)) (hr : rdInt st px = some n) :
  ∃ k, a.eval x = .int k n := by
 unfold rdInt at hr
 split at hr
 ·rename_i k m hm
  simp at hr; subst hr
  have := (rd_sound hE hc hf hm).1
  generalize a.eval x = y at this
  cases this
  exact ⟨_, rfl⟩
 ·simp at hr
theorem rdAll_sound (hE : EnvOk E N) (hf : FI N w G st a vs (lmap vs ops)) : ∀ {xs : List Operand} {pxs : List PX} {us : List PV}, cxs E vs ops xs = some pxs → rdAll st pxs = some us →
  xs.length = us.length ∧ ∀ (i : Nat) (x : Operand) (u : PV), xs[i]? = some x → us[i]? = some u → VR N w G.fix G.heap (a.eval x) u ∧ cp u = some u
 | [], pxs, us, hc, hr => by
   simp [cxs] at hc; subst hc
   simp [rdAll] at hr; subst hr; simp
 | x :: xs, pxs, us, hc, hr => by
   simp only [cxs, Option.bind_eq_some_iff, Option.map_eq_some_iff] at hc
   obtain ⟨p, hp, ps, hps, rfl⟩ := hc
   simp only [rdAll, Option.bind_eq_some_iff, Option.map_eq_some_iff] at hr
   obtain ⟨u, hu, us', hus, rfl⟩ := hr
   obtain ⟨h1, h2⟩ := rdAll_sound hE hf hps hus
   refine ⟨by simp [h1], ?_⟩
   intro i y v hy hv
   cases i with
   | zero => simp at hy hv; subst hy hv; exact rd_sound hE hp hf hu
   | succ i => exact h2 i y v (by simpa using hy) (by simpa using hv)
/-- An address. -/
theorem addr_sound (hE : EnvOk E N) {x : Operand} {px : PX} {u : PV} (hc : cx E vs ops x = some px) (hf : FI N w G st a vs (lmap vs ops)) (hr : addr st px = some u) :
  (∃ s g off b, u = .lptr s g off ∧ a.eval x = .pointer (some ⟨b, off, none⟩) ∧ G.box g = some b) ∨ (VR N w G.fix G.heap (a.eval x) u ∧ cp u = some u) := by
 unfold addr at hr
 split at hr
 ·rename_i i g cs hraw
  simp at hr; subst hr
  have := raw_sound hE hc hf hraw
  simp only [SR, keyX] at this
  obtain ⟨b, i', hk, hv, hb, _⟩ := this
  exact .inl ⟨i, g, 0, b, rfl, hv, hb⟩
 ·rename_i s g off hraw
  simp at hr; subst hr
  have := raw_sound hE hc hf hraw
  simp only [SR] at this
  obtain ⟨b, hv, hb⟩ := this
  exact .inl ⟨s, g, off, b, rfl, hv, hb⟩
 ·rename_i v _ _ hraw
  exact .inr ((raw_sound hE hc hf hraw).read hr)
 ·simp at hr
end
/-! ### Putting a value into its place -/
def keyD (d : PD) (j : Nat) : Key :=
 match d with
 | .v i => .var i
 | _ => .loc j
def DstOk (vs : List Tmp) (lm : Nat → Option Tmp) (j : Nat) (d : PD) (dst : Option Tmp) : Prop :=
 match d with
 | .v i => ∃ t, dst = some t ∧ vs[i]? = some t
 | .l => ∃ t, dst = some t ∧ lm j = some t
 | .n => dst = none
theorem put_eval (a : Act) (d t : Tmp) (v : Value) (hd : d < a.tmps.size) : (a.put (some d) v).eval (.tmp t) = if t = d then v else a.eval (.tmp t) := by
 simp only [Act.put, Act.eval, Array.getD_eq_getD_getElem?, Array.getElem?_setIfInBounds]
 by_cases h : t = d
 ·subst h; simp [hd]
 ·simp [h, Ne.symm h]
theorem FI.put {N : Nm} {w : World} {G : GS} {st : St} {a : Act} {vs : List Tmp} {lm : Nat → Option Tmp} {j : Nat} {d : PD} {dst : Option Tmp} {v : Value} {u : PV}
  (h : FI N w G st a vs lm) (nm : Names vs lm) (hd : DstOk vs lm j d dst) (hs : SR N w G (keyD d j) v u) : FI N w G (put st j d u) (a.put dst v) vs lm := by
 cases d with
 | n =>
   simp only [DstOk] at hd; subst hd
   exact h
 | v i =>
   obtain ⟨t, rfl, ht⟩ := hd
   have hsz := h.tv i t ht
   refine ⟨by simp [PI.put, h.len], ?_, ?_, ?_, ?_, h.defers, h.gen, h.owlt, h.fixlt, h.heap, h.hdom⟩
   ·intro i' t' u' h1 h2
    rw [put_eval _ _ _ _ hsz]
    simp only [PI.put, List.getElem?_set] at h2
    by_cases hi : i = i'
    ·subst hi
     have : t' = t := by rw [ht] at h1; simpa using h1.symm
     subst this
     split at h2
     ·split at h2
      ·simp at h2; subst h2; simp only [if_true]; exact hs
      ·simp at h2
     ·exact absurd rfl ‹_›
    ·rw [if_neg hi] at h2
     have hne : t' ≠ t := fun e => hi (nm.vnd i i' t ht (e ▸ h1))
     rw [if_neg hne]
     exact h.var i' t' u' h1 h2
   ·intro j' t' u' h1 h2
    rw [put_eval _ _ _ _ hsz, if_neg (fun e : t' = t => nm.sep j' t' i h1 (e ▸ ht))]
    exact h.loc j' t' u' h1 h2
   ·intro i' t' h1; simpa [Act.put] using h.tv i' t' h1
   ·intro j' t' h1; simpa [Act.put] using h.tl j' t' h1
 | l =>
   obtain ⟨t, rfl, ht⟩ := hd
   have hsz := h.tl j t ht
   refine ⟨h.len, ?_, ?_, ?_, ?_, h.defers, h.gen, h.owlt, h.fixlt, h.heap, h.hdom⟩
   ·intro i' t' u' h1 h2
    rw [put_eval _ _ _ _ hsz, if_neg (fun e : t' = t => nm.sep j t i' ht (e ▸ h1))]
    exact h.var i' t' u' h1 h2
   ·intro j' t' u' h1 h2
    rw [put_eval _ _ _ _ hsz]
    simp only [PI.put, List.getElem?_set] at h2
    by_cases hj : j = j'
    ·subst hj
     have : t' = t := by rw [ht] at h1; simpa using h1.symm
     subst this
     split at h2
     ·split at h2
      ·simp at h2; subst h2; simp only [if_true]; exact hs
      ·simp at h2
     ·exact absurd rfl ‹_›
    ·rw [if_neg hj] at h2
     have hne : t' ≠ t := fun e => hj (nm.lnd j j' t ht (e ▸ h1))
     rw [if_neg hne]
     exact h.loc j' t' u' h1 h2
   ·intro i' t' h1; simpa [Act.put] using h.tv i' t' h1
   ·intro j' t' h1; simpa [Act.put] using h.tl j' t' h1
/-- Nothing of the frame's own has turned. -/
theorem FI.ext {N : Nm} {w w' : World} {G G' : GS} {st : St} {a : Act} {vs : List Tmp} {lm : Nat → Option Tmp} (h : FI N w G st a vs lm) (e : Ext w G w' G')
  (hk : Keep (fun _ => False) w G w' G') (hg : ∀ g b, G'.box g = some b → g < st.gen) (ho : ∀ b k, G'.ow b = some k → b < w'.heap.size) (hx : ∀ b o, G'.fix b o → b < w'.heap.size) (hh : G'.heap = G.heap := by rfl) :
  FI N w' G' st a vs lm :=
 ⟨h.len, fun i t u h1 h2 => (h.var i t u h1 h2).keep e hk (fun h => h) (fun _ _ _ h => h), fun j t u h1 h2 => (h.loc j t u h1 h2).keep e hk (fun h => h) (fun _ _ _ h => h), h.tv, h.tl, (h.defers.trans e.df.symm), hg, ho, hx, h.heap.keep e hk (fun _ _ h => h), by rw [hh]; exact h.hdom⟩
theorem cDst_ok {vs : List Tmp} {ops : List Oper} {j : Nat} {o : Oper} (ho : ops[j]? = some o) : DstOk vs (lmap vs ops) j (cDst vs o.dst) o.dst := by
 unfold cDst
 split
 ·rename_i h; exact h
 ·rename_i t h
  cases hi : idxIn t vs 0 with
  | some i =>
    obtain ⟨_, h2⟩ := idxIn_some hi
    exact ⟨t, h, by simpa using h2⟩
  | none => exact ⟨t, h, by simp [lmap, ho, h, hi]⟩
theorem put_size (a : Act) (d : Option Tmp) (v : Value) : (a.put d v).tmps.size = a.tmps.size := by
 cases d <;> simp [Act.put]
/-- An operation that gives a value and leaves the world as it is. -/
theorem wp_value {P : Program} {N : Nm} {w : World} {G : GS} {st : St} {a : Act} {vs : List Tmp} {ops : List Oper} {j : Nat} {o : Oper} {v : Value} {u : PV} {next : Act → World → Prop}
  {Q : Exit → Act → World → Prop} (nm : Names vs (lmap vs ops)) (ho : ops[j]? = some o) (hf : FI N w G st a vs (lmap vs ops)) (hrun : (execOp a.eval o).run P w = .ok (.value v) w)
  (hs : SR N w G (keyD (cDst vs o.dst) j) v u) (hk : ∀ a' w' G', FI N w' G' (put st j (cDst vs o.dst) u) a' vs (lmap vs ops) → Ext w G w' G' → a'.tmps.size = a.tmps.size → next a' w') : o.wp P a w next Q := by
 unfold Oper.wp
 rw [hrun]
 exact hk _ _ _ (hf.put nm (cDst_ok ho) hs) (Ext.refl _ _) (put_size _ _ _)
end PI
