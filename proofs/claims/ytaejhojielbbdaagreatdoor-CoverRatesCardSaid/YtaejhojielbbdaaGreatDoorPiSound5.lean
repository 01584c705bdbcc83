/-
  The pure interpreter is right, 5: what an owner hands on, boxes, new rows.
-/
import Derived.Test.YtaejhojielbbdaaGreatDoorPiSound4
set_option linter.unusedSimpArgs false
set_option linter.unusedVariables false
set_option linter.unusedSectionVars false
namespace PI
open Go
def GS.give (G : GS) (b : Nat) (k : Key) : GS := { G with ow := fun x => if x = b then some k else G.ow x }
section
variable {E : Env} {N : Nm} {w : World} {G : GS} {st : St} {a : Act} {vs : List Tmp} {ops : List Oper} {P : Program}
variable {o : Oper} {j : Nat} {next : Act → World → Prop} {Q : Exit → Act → World → Prop} {u : PV} {st1 : St}
theorem FI.src (hf : FI N w G st a vs (lmap vs ops)) {px : PX} {es : List PV} {G' : GS} {w' : World} (hpx : ∀ p, px ≠ .c p) (hr : raw st px = some (.list true es))
  (e : Ext w G w' G') (hk : Keep (fun k => k = keyX px) w G w' G') (hg : ∀ g b, G'.box g = some b → g < st.gen) (ho : ∀ b k, G'.ow b = some k → b < w'.heap.size) (hx : ∀ b o, G'.fix b o → b < w'.heap.size) (hh : G'.heap = G.heap) :
  FI N w' G' (setSrc st px (.list false es)) a vs (lmap vs ops) := by
 cases px with
 | c p => exact absurd rfl (hpx p)
 | v i =>
   refine ⟨by simp [setSrc, hf.len], ?_, ?_, hf.tv, hf.tl, (hf.defers.trans e.df.symm), hg, ho, hx, hf.heap.keep e hk (by intro k hk e; subst e; simp [keyX, Key.isH] at hk), by rw [hh]; exact hf.hdom⟩
   ·intro i' t u h1 h2
    simp only [setSrc, List.getElem?_set] at h2
    split at h2
    ·rename_i hi
     subst hi
     split at h2
     ·simp at h2; subst h2
      exact ((hf.var i t _ h1 hr).1.dem).ext e
     ·simp at h2
    ·rename_i hi
     exact (hf.var i' t u h1 h2).keep e hk (by simp [keyX]; omega) (by simp [keyX])
   ·intro i' t u h1 h2
    exact (hf.loc i' t u h1 h2).keep e hk (by simp [keyX]) (by simp [keyX])
 | l i =>
   refine ⟨hf.len, ?_, ?_, hf.tv, hf.tl, (hf.defers.trans e.df.symm), hg, ho, hx, hf.heap.keep e hk (by intro k hk e; subst e; simp [keyX, Key.isH] at hk), by rw [hh]; exact hf.hdom⟩
   ·intro i' t u h1 h2
    exact (hf.var i' t u h1 h2).keep e hk (by simp [keyX]) (by simp [keyX])
   ·intro i' t u h1 h2
    simp only [setSrc, List.getElem?_set] at h2
    split at h2
    ·rename_i hi
     subst hi
     split at h2
     ·simp at h2; subst h2
      exact ((hf.loc i t _ h1 hr).1.dem).ext e
     ·simp at h2
    ·rename_i hi
     exact (hf.loc i' t u h1 h2).keep e hk (by simp [keyX]; omega) (by simp [keyX])
/-- Handing a block to another key. -/
theorem give_ext (b : Nat) (k : Key) (h : b < w.heap.size → G.ow b ≠ none) : Ext w G w (G.give b k) := by
 refine ⟨rfl, rfl, rfl, Nat.le_refl _, fun _ _ _ => rfl, fun _ _ h => ⟨h, rfl⟩, fun _ _ h => .inl h, ?_, fun _ _ h => h, ShapeLe.refl w, rfl⟩
 intro x hx
 simp only [GS.give] at hx
 split at hx
 ·rename_i hxb
  subst hxb
  by_cases hlt : x < w.heap.size
  ·exact .inr (h hlt)
  ·exact .inl (by omega)
 ·exact .inr hx
theorem give_keep (b : Nat) (k : Key) {K : Key → Prop} (h : ∀ k', G.ow b = some k' → K k') : Keep K w G w (G.give b k) := by
 refine ⟨?_, fun _ _ h => h⟩
 intro x k' hx hn
 refine ⟨?_, rfl, fun _ h => h⟩
 simp only [GS.give]
 split
 ·rename_i hxb
  subst hxb
  exact absurd (h k' hx) hn
 ·exact hx
/-- The move of an owned row. -/
theorem Room.give {key key' : Key} {v : Value} {es : List PV} (h : Room w G key v es) :
  ∃ G', (G' = G ∨ ∃ b, G.ow b = some key ∧ G' = G.give b key') ∧ Room w G' key' v es := by
 unfold Room at h
 split at h
 ·rename_i a len cap
  rcases h with h | ⟨ho, sz, cs, T, h1, h2, h3, h4, h5⟩
  ·exact ⟨G, .inl rfl, .inl h⟩
  ·exact ⟨G.give a.block key', .inr ⟨_, ho, rfl⟩, .inr ⟨by simp [GS.give], sz, cs, T, h1, h2, h3, h4, h5⟩⟩
 ·rename_i hx
  refine ⟨G, .inl rfl, ?_⟩
  unfold Room
  split
  ·rename_i a len cap; exact absurd rfl (hx _ _ _)
  ·trivial
/-- What was taken: a row with its room, or a plain value. -/
def Taken (w : World) (G : GS) (key : Key) (v : Value) : PV → Prop
 | .list true es => Room w G key v es
 | u => cp u = some u
theorem tk_sound (hE : EnvOk E N) {x : Operand} {px : PX} (hc : cx E vs ops x = some px) (hf : FI N w G st a vs (lmap vs ops)) (ht : tk st px = some (u, st1)) (key : Key) :
  ∃ G', FI N w G' st1 a vs (lmap vs ops) ∧ Ext w G w G' ∧ G'.box = G.box ∧ G'.fix = G.fix ∧ G'.heap = G.heap ∧ VR N w G.fix G.heap (a.eval x) u ∧
    Taken w G' key (a.eval x) u ∧ (∀ b, G'.ow b = G.ow b ∨ (G.ow b = some (keyX px) ∧ G'.ow b = some key)) ∧ st1.gen = st.gen ∧ st1.heap = st.heap := by
 unfold tk at ht
 split at ht
 ·rename_i es hr
  simp only [Option.some.injEq, Prod.mk.injEq] at ht
  obtain ⟨rfl, rfl⟩ := ht
  have hs := raw_sound hE hc hf hr
  obtain ⟨hv, hroom⟩ := hs
  by_cases hpx : ∃ p, px = .c p
  ·obtain ⟨p, rfl⟩ := hpx
   simp only [raw, Option.some.injEq] at hr
   subst hr
   refine ⟨G, hf, Ext.refl _ _, rfl, rfl, rfl, hv, ?_, fun _ => .inl rfl, rfl, rfl⟩
   cases x with
   | tmp t => simp only [cx] at hc; split at hc <;> simp at hc
   | const v =>
     simp only [cx] at hc
     split at hc
     ·simp at hc
     simp only [Option.map_eq_some_iff] at hc
     obtain ⟨q, hq, hq2⟩ := hc
     simp at hq2; subst hq2
     rcases constPV_form hq with ⟨es', _, rfl⟩ | h
     ·exact True.intro
     ·simp [cp] at h
   | global g => simp [cx] at hc
   | func f =>
     simp only [cx, Option.map_eq_some_iff] at hc
     obtain ⟨k, _, hk⟩ := hc
     simp at hk
  ·obtain ⟨G', hG, hroom'⟩ := hroom.give (key' := key)
   have hg : G'.box = G.box ∧ G'.fix = G.fix ∧ G'.heap = G.heap := by
    rcases hG with rfl | ⟨b, _, rfl⟩ <;> exact ⟨rfl, rfl, rfl⟩
   have hext : Ext w G w G' := by
    rcases hG with rfl | ⟨b, hb, rfl⟩
    ·exact Ext.refl _ _
    ·exact give_ext b key (fun _ => by simp [hb])
   have hkeep : Keep (fun k => k = keyX px) w G w G' := by
    rcases hG with rfl | ⟨b, hb, rfl⟩
    ·exact ⟨fun b k h _ => ⟨h, rfl, fun _ h => h⟩, fun _ _ h => h⟩
    ·exact give_keep b key (fun k' hk' => by rw [hb] at hk'; simpa using hk'.symm)
   have how : ∀ b, G'.ow b = G.ow b ∨ (G.ow b = some (keyX px) ∧ G'.ow b = some key) := by
    intro b
    rcases hG with rfl | ⟨b', hb, rfl⟩
    ·exact .inl rfl
    ·simp only [GS.give]
     split
     ·subst_vars; exact .inr ⟨hb, rfl⟩
     ·exact .inl rfl
   refine ⟨G', ?_, hext, hg.1, hg.2.1, hg.2.2, hv, hroom', how, ?_, ?_⟩
   ·refine hf.src (fun p hp => hpx ⟨p, hp⟩) hr hext hkeep (by rw [hg.1]; exact hf.gen) ?_ (by rw [hg.2.1]; exact hf.fixlt) hg.2.2
    intro b k hb
    rcases how b with h | ⟨h, _⟩
    ·exact hf.owlt b k (h ▸ hb)
    ·exact hf.owlt b _ h
   ·cases px <;> rfl
   ·cases px <;> rfl
 ·rename_i v hnot hr
  simp only [Option.map_eq_some_iff, Prod.mk.injEq] at ht
  obtain ⟨r, hr2, rfl, rfl⟩ := ht
  obtain ⟨h1, h2⟩ := (raw_sound hE hc hf hr).read hr2
  refine ⟨G, hf, Ext.refl _ _, rfl, rfl, rfl, h1, ?_, fun _ => .inl rfl, rfl, rfl⟩
  unfold Taken
  split
  ·simp [cp] at h2
  ·exact h2
 ·simp at ht
theorem SR.of_taken {key : Key} {v : Value} {u : PV} (h : VR N w G.fix G.heap v u) (hm : Taken w G key v u) : SR N w G key v u := by
 unfold Taken at hm
 split at hm
 ·exact ⟨h, hm⟩
 ·exact SR.of_pure h hm
theorem take_sound (hE : EnvOk E N) (nm : Names vs (lmap vs ops)) (ho : ops[j]? = some o) (hf : FI N w G st a vs (lmap vs ops)) {x : Operand} {px : PX} (hx : (execOp a.eval o).run P w = .ok (.value (a.eval x)) w)
  (hc : cx E vs ops x = some px) (hs : tk st px = some (u, st1)) (hk : Goes N w G a st1 u vs ops j o next) : o.wp P a w next Q := by
 obtain ⟨G', h1, h2, h3, h4, h5, h6, h7, _⟩ := tk_sound hE hc hf hs (keyD (cDst vs o.dst) j)
 unfold Oper.wp
 rw [hx]
 refine hk _ _ G' (h1.put nm (cDst_ok ho) (SR.of_taken ?_ h7)) h2 (put_size _ _ _)
 rw [h4, h5]; exact h6
/-! ### Boxes -/
theorem alloc_cell_old {w : World} {ob : Obj} {b o : Nat} (h : b < w.heap.size) : (w.alloc ob).cell? ⟨b, o, none⟩ = w.cell? ⟨b, o, none⟩ := World.cell?_alloc_lt w ob _ h
theorem alloc_heap_old {w : World} {ob : Obj} {b : Nat} (h : b < w.heap.size) : (w.alloc ob).heap[b]? = w.heap[b]? := by
 simp only [World.alloc, Array.getElem?_push]
 rw [if_neg (by omega)]
theorem alloc_heap_new {w : World} {ob : Obj} : (w.alloc ob).heap[w.heap.size]? = some ob := by unfold World.alloc; simp only [Array.getElem?_push_size]
/-- A new box: its block, held by a variable. -/
theorem box_sound (nm : Names vs (lmap vs ops)) (ho : ops[j]? = some o) (hf : FI N w G st a vs (lmap vs ops)) {cs : Array Value} {ps : List PV} {T : TypeId} {i : Nat} (hd : cDst vs o.dst = .v i)
  (hrun : (execOp a.eval o).run P w = .ok (.value (.pointer (some ⟨w.heap.size, 0, none⟩))) (w.alloc (.cells cs T)))
  (hR : ∀ (k : Nat) (c : Value) (x : PV), cs[k]? = some c → ps[k]? = some x → VR N w G.fix G.heap c x ∧ x.flat = true ∧ (∀ es, x = .list true es → c = .slice none 0 0)) (hl : cs.size = ps.length)
  (hk : Goes N w G a { st with gen := st.gen + 1 } (.loc st.gen ps) vs ops j o next) : o.wp P a w next Q := by
 unfold Oper.wp
 rw [hrun]
 have hnow : G.ow w.heap.size = none := by
  cases h : G.ow w.heap.size with
  | none => rfl
  | some k => have := hf.owlt _ _ h; omega
 have hnofix : ∀ o, ¬ G.fix w.heap.size o := fun o h => by have := hf.fixlt _ _ h; omega
 let G' : GS := { G with ow := fun x => if x = w.heap.size then some (.var i) else G.ow x, box := fun g => if g = st.gen then some w.heap.size else G.box g }
 have hext : Ext w G (w.alloc (.cells cs T)) G' := by
  refine ⟨rfl, rfl, rfl, by simp, fun b hb _ => alloc_heap_old hb, fun b o h => ⟨h, alloc_cell_old (hf.fixlt _ _ h)⟩, fun _ _ h => .inl h, ?_, fun _ _ h => h, .same fun k hk => alloc_heap_old hk, rfl⟩
  intro b hb
  by_cases hlt : b < w.heap.size
  ·refine .inr ?_
   simp only [G'] at hb
   rw [if_neg (by omega)] at hb
   exact hb
  ·exact .inl (by omega)
 have hkeep : Keep (fun _ => False) w G (w.alloc (.cells cs T)) G' := by
  refine ⟨?_, ?_⟩
  ·intro b k hb _
   have hlt := hf.owlt _ _ hb
   refine ⟨?_, alloc_heap_old hlt, fun _ h => h⟩
   simp only [G']
   rw [if_neg (by omega)]; exact hb
  ·intro g b hb
   have := hf.gen _ _ hb
   simp only [G']
   rw [if_neg (by omega)]; exact hb
 have hf1 : FI N (w.alloc (.cells cs T)) G' { st with gen := st.gen + 1 } a vs (lmap vs ops) := by
  refine ⟨hf.len, fun i t u h1 h2 => (hf.var i t u h1 h2).keep hext hkeep (fun h => h) (fun _ _ _ h => h), fun j t u h1 h2 => (hf.loc j t u h1 h2).keep hext hkeep (fun h => h) (fun _ _ _ h => h), hf.tv, hf.tl, hf.defers, ?_, ?_, ?_, hf.heap.keep hext hkeep (fun _ _ h => h), hf.hdom⟩
  ·intro g b hb
   simp only [G'] at hb
   split at hb
   ·simp; omega
   ·have := hf.gen _ _ hb; simp; omega
  ·intro b k hb
   simp only [G'] at hb
   split at hb
   ·simp; omega
   ·have := hf.owlt _ _ hb; simp; omega
  ·intro b o h; have := hf.fixlt _ _ h; simp; omega
 refine hk _ _ G' (hf1.put nm (cDst_ok ho) ?_) hext (put_size _ _ _)
 rw [hd]
 refine ⟨w.heap.size, i, rfl, rfl, by simp [G'], by simp [G', keyD], hnofix, cs, T, alloc_heap_new, hl, ?_⟩
 intro k c x hc hx
 obtain ⟨h1, h2, h3⟩ := hR k c x hc hx
 refine ⟨h1.ext hext, h2, ?_⟩
 split
 ·rename_i es
  have := h3 es rfl
  subst this
  trivial
 ·trivial
theorem isVar_some {d : PD} (h : isVar d = true) : ∃ i, d = .v i := by
 cases d with
 | v i => exact ⟨i, rfl⟩
 | l => simp [isVar] at h
 | n => simp [isVar] at h
theorem newloc_sound (nm : Names vs (lmap vs ops)) (ho : ops[j]? = some o) (hf : FI N w G st a vs (lmap vs ops)) {t : TypeId} {z : List PV} (hop : o.op = .alloc t) (hz : zeroT P t = some z) (hd : isVar (cDst vs o.dst) = true) {cf : CallF}
  (hs : opv cf (.newloc z) st = some (u, st1)) (hk : Goes N w G a st1 u vs ops j o next) : o.wp P a w next Q := by
 simp only [opv, Option.some.injEq, Prod.mk.injEq] at hs
 obtain ⟨rfl, rfl⟩ := hs
 obtain ⟨i, hi⟩ := isVar_some hd
 obtain ⟨ti, zv, h1, h2, h3, h4, h5, _⟩ := zeroT_sound (N := N) (w := w) (fix := G.fix) (hp := G.heap) hz
 refine box_sound (cs := zv.cells) (ps := z) (T := t) nm ho hf hi ?_ ?_ ?_ hk
 ·simp [execOp, hop, Instr.alloc, zeroValue, typeInfo, h1, h2, newVar, newRow]
 ·intro k c x hc hx
  refine ⟨h5.2.2 k c x (by simpa using hc) hx, h5.2.1 x (List.mem_of_getElem? hx), ?_⟩
  rintro es rfl
  unfold zeroT at hz
  simp only [h1, h2, Option.bind_eq_some_iff] at hz
  obtain ⟨cs', hcs, hz⟩ := hz
  split at hz
  ·simp at hz; subst hz
   exact constAll_own hcs k c es (by simpa using hc) hx
  ·simp at hz
 ·have := h5.1; simpa using this
theorem boxloc_sound (hE : EnvOk E N) (nm : Names vs (lmap vs ops)) (ho : ops[j]? = some o) (hf : FI N w G st a vs (lmap vs ops)) {t : TypeId} {n : Nat} {x : Operand} {px : PX} (hop : o.op = .box t x) (hn : sizeT P t = some n) (hx : cx E vs ops x = some px)
  (hd : isVar (cDst vs o.dst) = true) {cf : CallF} (hs : opv cf (.boxloc n px) st = some (u, st1)) (hk : Goes N w G a st1 u vs ops j o next) : o.wp P a w next Q := by
 simp only [opv] at hs
 split at hs
 ·rename_i p hp
  split at hs
  ·rename_i hl
   simp only [Option.some.injEq, Prod.mk.injEq] at hs
   obtain ⟨rfl, rfl⟩ := hs
   obtain ⟨i, hi⟩ := isVar_some hd
   obtain ⟨_, _, _, _, hn0, _⟩ := info_underlying hn
   have hv := (rd_sound hE hx hf hp).1
   have hcells := (CellsR.of_cells hv (by intro e; rw [e] at hl; simp at hl; omega)).dem
   refine box_sound (cs := (a.eval x).cells) (ps := p.cells.map dem) (T := t) nm ho hf hi ?_ ?_ ?_ hk
   ·simp [execOp, hop, Instr.box, newVar, newRow]
   ·intro k c y hc hy
    refine ⟨hcells.2.2 k c y (by simpa using hc) hy, hcells.2.1 y (List.mem_of_getElem? hy), ?_⟩
    rintro es rfl
    simp only [List.getElem?_map, Option.map_eq_some_iff] at hy
    obtain ⟨q, _, hq⟩ := hy
    cases q <;> simp [dem] at hq
   ·have := hcells.1; simpa using this
  ·simp at hs
 ·simp at hs
end
end PI
