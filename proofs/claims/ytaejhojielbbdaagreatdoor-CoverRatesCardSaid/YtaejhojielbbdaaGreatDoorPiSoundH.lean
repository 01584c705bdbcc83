/-
  The pure interpreter is right: the shared heap.
-/
import Derived.Test.YtaejhojielbbdaaGreatDoorPiSound8
import Derived.MapKept
set_option linter.unusedSimpArgs false
set_option linter.unusedVariables false
set_option linter.unusedSectionVars false
namespace PI
open Go
section
variable {E : Env} {N : Nm} {w : World} {G : GS} {st : St} {a : Act} {vs : List Tmp} {ops : List Oper} {P : Program}
variable {o : Oper} {j : Nat} {next : Act → World → Prop} {Q : Exit → Act → World → Prop} {u : PV} {st1 : St}
/-- The ghosts behind a new object. -/
def GS.more (G : GS) (b n : Nat) : GS := { G with ow := fun x => if x = b then some (.hobj n) else G.ow x, heap := fun m => if m = n then some b else G.heap m }
/-- A new object of the heap. -/
theorem obj_new (nm : Names vs (lmap vs ops)) (ho : ops[j]? = some o) (hf : FI N w G st a vs (lmap vs ops)) {ob : PObj} {mob : Obj} {v : Value} {u : PV}
  (hrun : (execOp a.eval o).run P w = .ok (.value v) (w.alloc mob)) (hv : ∀ G', G' = G.more w.heap.size st.heap.length → SR N (w.alloc mob) G' (keyD (cDst vs o.dst) j) v u)
  (hR : ∀ G', G' = G.more w.heap.size st.heap.length → Ext w G (w.alloc mob) G' → ObjR N (w.alloc mob) G' st.heap.length w.heap.size ob)
  (hk : Goes N w G a { st with heap := st.heap ++ [ob] } u vs ops j o next) : o.wp P a w next Q := by
 unfold Oper.wp
 rw [hrun]
 let G' : GS := G.more w.heap.size st.heap.length
 have hext : Ext w G (w.alloc mob) G' := by
  refine ⟨rfl, rfl, rfl, by simp, fun b hb _ => alloc_heap_old hb, fun b o h => ⟨h, alloc_cell_old (hf.fixlt _ _ h)⟩, fun _ _ h => .inl h, ?_, ?_, .same fun k hk => alloc_heap_old hk, rfl⟩
  ·intro b hb
   by_cases hlt : b < w.heap.size
   ·refine .inr ?_
    simp only [G', GS.more] at hb
    rw [if_neg (by omega)] at hb
    exact hb
   ·exact .inl (by omega)
  ·intro n b h
   have := hf.hdom _ _ h
   simp only [G', GS.more]
   rw [if_neg (by omega)]; exact h
 have hkeep : Keep (fun _ => False) w G (w.alloc mob) G' := by
  refine ⟨?_, fun _ _ h => h⟩
  intro b k hb _
  have hlt := hf.owlt _ _ hb
  refine ⟨?_, alloc_heap_old hlt, fun _ h => h⟩
  simp only [G', GS.more]
  rw [if_neg (by omega)]; exact hb
 have hf1 : FI N (w.alloc mob) G' { st with heap := st.heap ++ [ob] } a vs (lmap vs ops) := by
  refine ⟨hf.len, fun i t u h1 h2 => (hf.var i t u h1 h2).keep hext hkeep (fun h => h) (fun _ _ _ h => h), fun j t u h1 h2 => (hf.loc j t u h1 h2).keep hext hkeep (fun h => h) (fun _ _ _ h => h), hf.tv, hf.tl, hf.defers, hf.gen, ?_, ?_, ?_, ?_⟩
  ·intro b k hb
   simp only [G', GS.more] at hb
   split at hb
   ·simp; omega
   ·have := hf.owlt _ _ hb; simp; omega
  ·intro b o h; have := hf.fixlt _ _ h; simp; omega
  ·exact hf.heap.push hext hkeep (fun _ _ _ => .inr ⟨fun h => h, fun h => h⟩) (.inr ⟨w.heap.size, by simp [G', GS.more], by simp [G', GS.more], hR G' rfl hext⟩)
  ·intro n b h
   simp only [G', GS.more] at h
   simp only [List.length_append, List.length_singleton]
   split at h
   ·omega
   ·have := hf.hdom _ _ h; omega
 exact hk _ _ G' (hf1.put nm (cDst_ok ho) (hv _ rfl)) hext (put_size _ _ _)
theorem obj_cells (hf : FI N w G st a vs (lmap vs ops)) {cs : Array Value} {ps : List PV} {T : TypeId}
  (hR : ∀ (k : Nat) (c : Value) (x : PV), cs[k]? = some c → ps[k]? = some x → VR N w G.fix G.heap c x ∧ x.flat = true ∧ (∀ es, x = .list true es → c = .slice none 0 0)) (hl : cs.size = ps.length)
  {G' : GS} (hG : G' = G.more w.heap.size st.heap.length) (hext : Ext w G (w.alloc (.cells cs T)) G') : ObjR N (w.alloc (.cells cs T)) G' st.heap.length w.heap.size (.cells ps) := by
 subst hG
 have hnofix : ∀ o, ¬ G.fix w.heap.size o := fun o h => by have := hf.fixlt _ _ h; omega
 refine ⟨hnofix, cs, T, alloc_heap_new, Nat.le_of_eq hl.symm, ?_⟩
 intro k c x hc hx
 obtain ⟨h1, h2, h3⟩ := hR k c x hc hx
 refine ⟨h1.ext hext, h2, ?_⟩
 split
 ·rename_i es
  have := h3 es rfl
  subst this
  trivial
 ·trivial
theorem newobj_sound (nm : Names vs (lmap vs ops)) (ho : ops[j]? = some o) (hf : FI N w G st a vs (lmap vs ops)) {t : TypeId} {z : List PV} (hop : o.op = .alloc t) (hz : zeroT P t = some z) {cf : CallF}
  (hs : hopv cf (.newobj z) st = some (u, st1)) (hk : Goes N w G a st1 u vs ops j o next) : o.wp P a w next Q := by
 simp only [hopv, Option.some.injEq, Prod.mk.injEq] at hs
 obtain ⟨rfl, rfl⟩ := hs
 obtain ⟨ti, zv, h1, h2, h3, h4, h5, _⟩ := zeroT_sound (N := N) (w := w) (fix := G.fix) (hp := G.heap) hz
 refine obj_new (mob := .cells zv.cells t) (v := .pointer (some ⟨w.heap.size, 0, none⟩)) nm ho hf ?_ ?_ (fun G' hG hext => obj_cells hf ?_ ?_ hG hext) hk
 ·simp [execOp, hop, Instr.alloc, zeroValue, typeInfo, h1, h2, newVar, newRow]
 ·rintro G' rfl
  exact .ptr _ _ w.heap.size (by simp [GS.more])
 ·intro k c x hc hx
  refine ⟨h5.2.2 k c x (by simpa using hc) hx, h5.2.1 x (List.mem_of_getElem? hx), ?_⟩
  rintro es rfl
  unfold zeroT at hz
  simp only [h1, h2, Option.bind_eq_some_iff] at hz
  obtain ⟨cs', hcs, hz⟩ := hz
  split at hz
  ·simp at hz; subst hz
   exact constAll_own hcs k c es (by simpa using hc) hx
  ·simp at hz
 ·have := h5.1; simpa using this
theorem boxobj_sound (hE : EnvOk E N) (nm : Names vs (lmap vs ops)) (ho : ops[j]? = some o) (hf : FI N w G st a vs (lmap vs ops)) {t : TypeId} {n : Nat} {x : Operand} {px : PX} (hop : o.op = .box t x) (hn : sizeT P t = some n) (hx : cx E vs ops x = some px)
  {cf : CallF} (hs : hopv cf (.boxobj n px) st = some (u, st1)) (hk : Goes N w G a st1 u vs ops j o next) : o.wp P a w next Q := by
 simp only [hopv] at hs
 split at hs
 ·rename_i p hp
  split at hs
  ·rename_i hl
   simp only [Option.some.injEq, Prod.mk.injEq] at hs
   obtain ⟨rfl, rfl⟩ := hs
   obtain ⟨_, _, _, _, hn0, _⟩ := info_underlying hn
   have hv := (rd_sound hE hx hf hp).1
   have hcells := (CellsR.of_cells hv (by intro e; rw [e] at hl; simp at hl; omega))
   refine obj_new (mob := .cells (a.eval x).cells t) (v := .pointer (some ⟨w.heap.size, 0, none⟩)) nm ho hf ?_ ?_ (fun G' hG hext => obj_cells hf ?_ ?_ hG hext) hk
   ·simp [execOp, hop, Instr.box, newVar, newRow]
   ·rintro G' rfl
    exact .ptr _ _ w.heap.size (by simp [GS.more])
   ·intro k c y hc hy
    refine ⟨hcells.2.2 k c y (by simpa using hc) hy, hcells.2.1 y (List.mem_of_getElem? hy), ?_⟩
    rintro es rfl
    have hno : ∀ es, p ≠ .list true es := by
     rintro es rfl
     unfold rd at hp
     cases h1 : raw st px with
     | none => rw [h1] at hp; simp at hp
     | some q => rw [h1] at hp; cases q <;> simp [cp] at hp
    generalize a.eval x = v at hv hc
    cases hv with
    | agg cs ps hlen hflat hown hcell => exact hown k c es hc hy
    | _ =>
      exfalso
      cases k with
      | succ k => simp [PV.cells] at hy
      | zero =>
        simp [PV.cells] at hy
        try (obtain ⟨rfl, rfl⟩ := hy; exact hno _ rfl)
        try (subst hy; exact hno _ rfl)
   ·have := hcells.1; simpa using this
  ·simp at hs
 ·simp at hs
theorem mkmap_sound (nm : Names vs (lmap vs ops)) (ho : ops[j]? = some o) (hf : FI N w G st a vs (lmap vs ops)) {t : TypeId} (hop : o.op = .makeMap t none) {cf : CallF}
  (hs : hopv cf .mkmap st = some (u, st1)) (hk : Goes N w G a st1 u vs ops j o next) : o.wp P a w next Q := by
 simp only [hopv, Option.some.injEq, Prod.mk.injEq] at hs
 obtain ⟨rfl, rfl⟩ := hs
 refine obj_new (mob := .map #[] 0) (v := .map (some w.heap.size)) nm ho hf ?_ ?_ ?_ hk
 ·simp [execOp, hop, Instr.makeMap]
 ·rintro G' rfl
  exact .map _ w.heap.size (by simp [GS.more])
 ·rintro G' rfl hext
  exact ⟨#[], 0, alloc_heap_new, rfl, by simp, by simp, by simp⟩
/-! ### Reading and writing objects -/
theorem obj_open (hf : FI N w G st a vs (lmap vs ops)) {n b : Nat} {cs : List PV} (hg : hget st n = some cs) (hb : G.heap n = some b) :
  G.ow b = some (.hobj n) ∧ (∀ o, ¬ G.fix b o) ∧ ∃ cv T, w.heap[b]? = some (.cells cv T (0, 0)) ∧ cs.length ≤ cv.size ∧ ∀ (k : Nat) (c : Value) (x : PV), cv[k]? = some c → cs[k]? = some x → CR N w G (.hcell n k) c x := by
 unfold hget at hg
 split at hg
 ·rename_i cs' hn
  simp at hg; subst hg
  rcases hf.heap.1 n _ hn with e | ⟨b', h1, h2, h3, h4⟩
  ·simp at e
  have : b' = b := by rw [hb] at h1; simpa using h1.symm
  subst this
  exact ⟨h2, h3, h4⟩
 ·simp at hg
theorem cells_of_obj {b n : Nat} {cv : Array Value} {T : TypeId} {cs : List PV} (hh : w.heap[b]? = some (.cells cv T (0, 0))) (hl : cs.length ≤ cv.size)
  (hc : ∀ (k : Nat) (c : Value) (x : PV), cv[k]? = some c → cs[k]? = some x → CR N w G (.hcell n k) c x) :
  CellsR N w G.fix G.heap (cv.toList.take cs.length) cs ∧ ∀ (k : Nat) (v : Value), (cv.toList.take cs.length)[k]? = some v → w.cell? ⟨b, k, none⟩ = some v := by
 have get : ∀ (k : Nat) (v : Value), (cv.toList.take cs.length)[k]? = some v → cv[k]? = some v := by
  intro k v hv
  rw [List.getElem?_take] at hv
  split at hv
  ·simpa using hv
  ·simp at hv
 refine ⟨⟨by simp; omega, ?_, fun i c x h1 h2 => (hc i c x (get i c h1) h2).1⟩, ?_⟩
 ·intro x hx
  obtain ⟨i, hi⟩ := List.mem_iff_getElem?.1 hx
  have hlt : i < cv.size := by have := (List.getElem?_eq_some_iff.1 hi).1; omega
  exact (hc i cv[i] x (by simp [hlt]) hi).2.1
 ·intro k v hv
  simp [World.cell?, hh, get k v hv]
theorem addr_ptr (hE : EnvOk E N) {x : Operand} {px : PX} {n off : Nat} (hc : cx E vs ops x = some px) (hf : FI N w G st a vs (lmap vs ops)) (hr : addr st px = some (.ptr n off)) :
  ∃ b, a.eval x = .pointer (some ⟨b, off, none⟩) ∧ G.heap n = some b := by
 rcases addr_sound hE hc hf hr with ⟨_, _, _, _, h, _⟩ | ⟨h, _⟩
 ·simp at h
 ·generalize a.eval x = v at h
  cases h with
  | ptr _ _ b hb => exact ⟨b, rfl, hb⟩
theorem hload_sound (hE : EnvOk E N) (nm : Names vs (lmap vs ops)) (ho : ops[j]? = some o) (hf : FI N w G st a vs (lmap vs ops)) {t : TypeId} {n : Nat} {x : Operand} {px : PX} {tk : Bool} (hop : o.op = .load t x) (hn : sizeT P t = some n)
  (hx : cx E vs ops x = some px) {cf : CallF} (hs : hopv cf (.load n (isAggT P t) px tk) st = some (u, st1)) (hk : Goes N w G a st1 u vs ops j o next) : o.wp P a w next Q := by
 have plain : ∀ r, (Instr.loadAt t (a.eval x)).run P w = .ok r w → (execOp a.eval o).run P w = .ok (.value r) w := by
  intro r hr
  simp [execOp, hop, hr]
 have hn0 : n ≠ 0 := by obtain ⟨_, _, _, _, h, _⟩ := info_underlying hn; exact h
 simp only [hopv] at hs
 split at hs
 ·rename_i cs ha
  simp only [Option.map_eq_some_iff, Prod.mk.injEq] at hs
  obtain ⟨r, hr, rfl, rfl⟩ := hs
  rcases addr_sound hE hx hf ha with ⟨_, _, _, _, h, _⟩ | ⟨h, _⟩
  ·simp at h
  ·obtain ⟨r', h1, h2, h3⟩ := load_cptr (P := P) hn h hr
   exact wp_value nm ho hf (plain _ h1) (SR.of_pure h2 h3) hk
 ·rename_i m off ha
  obtain ⟨b, hv, hb⟩ := addr_ptr hE hx hf ha
  simp only [Option.bind_eq_some_iff] at hs
  obtain ⟨cs, hg, hs⟩ := hs
  obtain ⟨ho1, ho2, cv, T, hh, hl, hc⟩ := obj_open hf hg hb
  split at hs
  ·rename_i es htk hcell
   simp only [Option.some.injEq, Prod.mk.injEq] at hs
   obtain ⟨rfl, rfl⟩ := hs
   simp only [Bool.and_eq_true, Bool.not_eq_true'] at htk
   have hlt : off < cv.size := by have := (List.getElem?_eq_some_iff.1 hcell).1; omega
   obtain ⟨hvr, _, hroom⟩ := hc off cv[off] _ (by simp [hlt]) hcell
   obtain ⟨G', hG, hroom'⟩ := Room.give (key' := keyD (cDst vs o.dst) j) hroom
   have hgg : G'.box = G.box ∧ G'.fix = G.fix ∧ G'.heap = G.heap := by
    rcases hG with rfl | ⟨b, _, rfl⟩ <;> exact ⟨rfl, rfl, rfl⟩
   have hext : Ext w G w G' := by
    rcases hG with rfl | ⟨b, hb, rfl⟩
    ·exact Ext.refl _ _
    ·exact give_ext b _ (fun _ => by simp [hb])
   have hkeep : Keep (fun k => k = .hcell m off) w G w G' := by
    rcases hG with rfl | ⟨b, hb, rfl⟩
    ·exact ⟨fun b k h _ => ⟨h, rfl, fun _ h => h⟩, fun _ _ h => h⟩
    ·exact give_keep b _ (fun k' hk' => by rw [hb] at hk'; simpa using hk'.symm)
   have hf1 : FI N w G' (hset st m (.cells (cs.set off (.list false es)))) a vs (lmap vs ops) := by
    refine ⟨hf.len, fun i t' u' h1 h2 => (hf.var i t' u' h1 h2).keep hext hkeep (by simp) (by simp), fun i t' u' h1 h2 => (hf.loc i t' u' h1 h2).keep hext hkeep (by simp) (by simp), hf.tv, hf.tl, (hf.defers.trans hext.df.symm), by rw [hgg.1]; exact hf.gen, ?_, by rw [hgg.2.1]; exact hf.fixlt, ?_, ?_⟩
    ·intro b' k hb'
     rcases hG with rfl | ⟨b2, hb2, rfl⟩
     ·exact hf.owlt _ _ hb'
     ·simp only [GS.give] at hb'
      split at hb'
      ·subst_vars; exact hf.owlt _ _ hb2
      ·exact hf.owlt _ _ hb'
    ·refine hf.heap.keepBut hext hkeep (fun n k hne => ⟨by simp, by simp; omega⟩) (fun _ => ?_)
     refine .inr ⟨b, hext.heap _ _ hb, (hkeep.1 _ _ ho1 (by simp)).1, by rw [hgg.2.1]; exact ho2, cv, T, hh, by simp [hl], ?_⟩
     intro k c y hc1 hy
     rw [List.getElem?_set] at hy
     split at hy
     ·rename_i hk2
      subst hk2
      split at hy
      ·simp at hy; subst hy
       have : c = cv[off] := by simp [hlt] at hc1; exact hc1.symm
       subst this
       exact ⟨(hvr.dem).ext hext, rfl, trivial⟩
      ·simp at hy
     ·rename_i hk2
      exact (hc k c y hc1 hy).keep hext hkeep (by simp; omega)
    ·rw [hgg.2.2]; simp only [hset, List.length_set]; exact hf.hdom
   unfold Oper.wp
   have hrun : (Instr.loadAt t (a.eval x)).run P w = .ok cv[off] w := by
    have hcl : w.cell? ⟨b, off, none⟩ = some cv[off] := by simp [World.cell?, hh, hlt]
    rw [hv]
    simp [Instr.loadAt, Instr.sureAddr, loadVar, run_isAggT hn, htk.2, hcl]
   rw [plain _ hrun]
   exact hk _ _ G' (hf1.put nm (cDst_ok ho) ⟨hvr.ext hext, hroom'⟩) hext (put_size _ _ _)
  ·simp only [Option.map_eq_some_iff, Prod.mk.injEq] at hs
   obtain ⟨r, hr, rfl, rfl⟩ := hs
   obtain ⟨hR, hcell⟩ := cells_of_obj hh hl hc
   obtain ⟨k1, k2, k3⟩ := loadFrom_sound hR hr hn0 (sizeT_one hn)
   have := run_loadVarT (w := w) hn b off ((cv.toList.take cs.length).drop off) (by simp at k1 ⊢; omega) (fun j v hv => by
    rw [List.getElem?_drop] at hv
    exact hcell _ _ hv)
   refine wp_value nm ho hf (plain _ ?_) (SR.of_pure k2 k3) hk
   rw [hv]
   simpa [Instr.loadAt, Instr.sureAddr] using this
 ·simp at hs
/-- What a store puts into cells. -/
theorem storeInto_sound {n off : Nat} {t : TypeId} {cv : Array Value} {cs cs' : List PV} {v : PV} {val : Value} (hl : cs.length ≤ cv.size) (hn : sizeT P t = some n) (hst : storeInto n (isAggT P t) cs off v = some cs') (hvr : VR N w G.fix G.heap val v) :
  ∃ nc : List Value, val.cells.toList = nc ∧ nc.length = n ∧ off + n ≤ cv.size ∧ (∀ c ∈ nc, c.oneCell' = true) ∧ cs'.length = cs.length ∧
    ∀ (k : Nat) (c : Value) (z : PV), (cv.toList.take off ++ nc ++ cv.toList.drop (off + n))[k]? = some c → cs'[k]? = some z →
      (cv[k]? = some c ∧ cs[k]? = some z) ∨ (VR N w G.fix G.heap c z ∧ z.flat = true ∧ ∀ es, z = .list true es → (k = off ∧ c = val ∧ v = .list true es) ∨ c = .slice none 0 0) := by
 unfold storeInto at hst
 split at hst
 ·rename_i hagg
  split at hst
  ·rename_i ws
   split at hst
   ·rename_i hcond
    simp only [Option.some.injEq] at hst; subst hst
    obtain ⟨ca, hca, hR⟩ := CellsR.of_agg hvr
    have hO : OwnNil ca.toList ws := OwnNil.of_agg (hca ▸ hvr)
    have hcl : val.cells.toList = ca.toList := by rw [hca]; rfl
    have hlen : ca.toList.length = n := by have := hR.1; omega
    refine ⟨ca.toList, hcl, hlen, by omega, ?_, by simp; omega, ?_⟩
    ·intro c hcm
     obtain ⟨i, hi⟩ := List.mem_iff_getElem?.1 hcm
     have hlt : i < ws.length := by have := (List.getElem?_eq_some_iff.1 hi).1; have := hR.1; omega
     have h1 := hR.2.2 i c ws[i] hi (List.getElem?_eq_getElem hlt)
     have h2 := h1.oneCell (hR.2.1 _ (List.getElem_mem hlt))
     cases c <;> first | rfl | simp [oneCell] at h2
    ·intro k c z hc1 hz
     rw [List.append_assoc] at hc1
     have hoff : (cv.toList.take off).length = off := by simp; omega
     have hoff' : (cs.take off).length = off := by simp; omega
     by_cases h1 : k < off
     ·rw [List.getElem?_append_left (by omega), List.getElem?_take, if_pos h1] at hc1
      rw [List.getElem?_append_left (by omega), List.getElem?_take, if_pos h1] at hz
      exact .inl ⟨by simpa using hc1, hz⟩
     ·rw [List.getElem?_append_right (by omega), hoff] at hc1
      rw [List.getElem?_append_right (by omega), hoff'] at hz
      by_cases h2 : k < off + n
      ·rw [List.getElem?_append_left (by omega)] at hc1
       rw [List.getElem?_append_left (by omega)] at hz
       refine .inr ⟨hR.2.2 _ c z hc1 hz, hR.2.1 z (List.mem_of_getElem? hz), ?_⟩
       rintro es rfl
       exact .inr (hO _ c es hc1 hz)
      ·rw [List.getElem?_append_right (by omega), List.getElem?_drop, hlen] at hc1
       rw [List.getElem?_append_right (by omega), List.getElem?_drop, hcond.1] at hz
       rw [show off + n + (k - off - n) = k by omega] at hc1 hz
       exact .inl ⟨by simpa using hc1, hz⟩
   ·simp at hst
  ·simp at hst
 ·rename_i hagg
  have hn1 := sizeT_one hn (by simpa using hagg)
  subst hn1
  split at hst
  ·rename_i hcond
   simp only [Option.some.injEq] at hst; subst hst
   have h1 := hvr.oneCell hcond.2
   have hcl : val.cells.toList = [val] := by
    cases val <;> first | rfl | simp [oneCell] at h1
   refine ⟨[val], hcl, rfl, by omega, ?_, by simp, ?_⟩
   ·intro c hcm
    simp at hcm; subst hcm
    cases c <;> first | rfl | simp [oneCell] at h1
   ·intro k c z hc1 hz
    rw [List.append_assoc] at hc1
    have hoff : (cv.toList.take off).length = off := by simp; omega
    rw [List.getElem?_set] at hz
    split at hz
    ·rename_i hko
     subst hko
     split at hz
     ·simp at hz; subst hz
      rw [List.getElem?_append_right (by omega), hoff] at hc1
      simp at hc1; subst hc1
      exact .inr ⟨hvr, hcond.2, fun es e => .inl ⟨rfl, rfl, e⟩⟩
     ·simp at hz
    ·rename_i hko
     refine .inl ⟨?_, hz⟩
     by_cases h1 : k < off
     ·rw [List.getElem?_append_left (by omega), List.getElem?_take, if_pos h1] at hc1
      simpa using hc1
     ·rw [List.getElem?_append_right (by omega), hoff, List.getElem?_append_right (by simp; omega), List.getElem?_drop] at hc1
      simp only [List.length_singleton] at hc1
      rw [show off + 1 + (k - off - 1) = k by omega] at hc1
      simpa using hc1
  ·simp at hst
theorem hstore_sound (hE : EnvOk E N) (nm : Names vs (lmap vs ops)) (ho : ops[j]? = some o) (hf : FI N w G st a vs (lmap vs ops)) {t : TypeId} {n : Nat} {x y : Operand} {px py : PX} (hop : o.op = .store t x y) (hdst : o.dst = none) (hn : sizeT P t = some n)
  (hx : cx E vs ops x = some px) (hy : cx E vs ops y = some py) {cf : CallF} (hs : hopv cf (.store n (isAggT P t) px py) st = some (u, st1)) (hk : Goes N w G a st1 u vs ops j o next) : o.wp P a w next Q := by
 simp only [hopv] at hs
 split at hs
 ·rename_i m off v st' ha htk
  obtain ⟨b, hv, hb⟩ := addr_ptr hE hx hf ha
  obtain ⟨G1, hf1, hext1, hbox1, hfix1, hheap1, hvr, htaken, _, _, _⟩ := tk_sound hE hy hf htk (.hcell m off)
  simp only [Option.bind_eq_some_iff, Option.map_eq_some_iff, Prod.mk.injEq] at hs
  obtain ⟨cs, hg, cs', hst, rfl, rfl⟩ := hs
  have hb1 : G1.heap m = some b := by rw [hheap1]; exact hb
  obtain ⟨ho1, ho2, cv, T, hh, hl, hc⟩ := obj_open hf1 hg hb1
  obtain ⟨nc, hnc, hlen, hfit, hone, hlcs, hcells⟩ := storeInto_sound hl hn hst hvr
  have hrun : (execOp a.eval o).run P w = .ok .skip (w.setRow b (cv.toList.take off ++ nc ++ cv.toList.drop (off + n)).toArray) := by
   have hst := run_storeCells_at P b off T nc 0 cv w hh (by simp; omega) hone
   simp only [Nat.add_zero, hlen] at hst
   have hsz : (a.eval y).cells.size = n := by rw [← hlen, ← hnc]; simp
   simp [execOp, hop, Instr.storeAt, hv, Instr.sureAddr, storeVar, run_sizeT hn, hsz, hnc, hst]
  unfold Oper.wp
  rw [hrun]
  have hblt : b < w.heap.size := hf1.owlt _ _ ho1
  have hother : ∀ x, x ≠ b → (w.setRow b (cv.toList.take off ++ nc ++ cv.toList.drop (off + n)).toArray).heap[x]? = w.heap[x]? := fun x hx => setRow_other w b x _ hx
  have hext2 : Ext w G1 (w.setRow b (cv.toList.take off ++ nc ++ cv.toList.drop (off + n)).toArray) G1 := by
   refine ⟨rfl, rfl, rfl, by simp [World.setRow], ?_, ?_, fun _ _ h => .inl h, fun _ h => .inr h, fun _ _ h => h, shape_setRow hh _ (by simp; omega), rfl⟩
   ·intro x _ hxo
    exact hother x (by rintro rfl; rw [ho1] at hxo; simp at hxo)
   ·intro x o' hfx
    refine ⟨hfx, ?_⟩
    have hxb : x ≠ b := by rintro rfl; exact ho2 _ hfx
    simp only [World.cell?, hother x hxb]
  have hkeep2 : Keep (fun k => k = .hobj m) w G1 (w.setRow b (cv.toList.take off ++ nc ++ cv.toList.drop (off + n)).toArray) G1 := by
   refine ⟨?_, fun _ _ h => h⟩
   intro x k hxk hnk
   refine ⟨hxk, hother x ?_, fun _ h => h⟩
   rintro rfl
   rw [ho1] at hxk
   simp at hxk
   exact hnk hxk.symm
  have hf2 : FI N (w.setRow b (cv.toList.take off ++ nc ++ cv.toList.drop (off + n)).toArray) G1 (hset st' m (.cells cs')) a vs (lmap vs ops) := by
   refine ⟨hf1.len, fun i t' u' h1 h2 => (hf1.var i t' u' h1 h2).keep hext2 hkeep2 (by simp) (by simp), fun i t' u' h1 h2 => (hf1.loc i t' u' h1 h2).keep hext2 hkeep2 (by simp) (by simp), hf1.tv, hf1.tl, hf1.defers, hf1.gen, ?_, ?_, ?_, ?_⟩
   ·intro x k hx; simpa [World.setRow] using hf1.owlt x k hx
   ·intro x o' hx; simpa [World.setRow] using hf1.fixlt x o' hx
   ·refine hf1.heap.keepBut hext2 hkeep2 (fun n k hne => ⟨by simp; omega, by simp⟩) (fun _ => ?_)
    refine .inr ⟨b, hb1, ho1, ho2, _, T, setRow_heap w b cv _ T (0, 0) hh, ?_, ?_⟩
    ·simp; omega
    ·intro k c z hc1 hz
     rcases hcells k c z (by simpa using hc1) hz with ⟨k1, k2⟩ | ⟨k1, k2, k3⟩
     ·exact (hc k c z k1 k2).keep hext2 hkeep2 (by simp)
     ·refine ⟨(hfix1 ▸ hheap1 ▸ k1 : VR N w G1.fix G1.heap c z).ext hext2, k2, ?_⟩
      split
      ·rename_i es
       rcases k3 es rfl with ⟨e1, e2, e3⟩ | e
       ·subst e1 e2 e3
        have hr : Room w G1 (.hcell m k) (a.eval y) es := htaken
        exact hr.keep hkeep2 (by simp)
       ·subst e; trivial
      ·trivial
   ·simp only [hset, List.length_set]; exact hf1.hdom
  have hput : a.put o.dst undef = a := by simp [hdst, Act.put]
  have hd : cDst vs o.dst = .n := by simp [hdst, cDst]
  show next (a.put o.dst undef) _
  rw [hput]
  refine hk _ _ G1 ?_ (hext1.trans hext2) rfl
  rw [hd]
  exact hf2
 ·simp at hs
theorem hstorer_sound (hE : EnvOk E N) (nm : Names vs (lmap vs ops)) (ho : ops[j]? = some o) (hf : FI N w G st a vs (lmap vs ops)) {t : TypeId} {n : Nat} {x y : Operand} {px py : PX} (hop : o.op = .store t x y) (hdst : o.dst = none) (hn : sizeT P t = some n)
  (hx : cx E vs ops x = some px) (hy : cx E vs ops y = some py) {cf : CallF} (hs : hopv cf (.storer n (isAggT P t) px py) st = some (u, st1)) (hk : Goes N w G a st1 u vs ops j o next) : o.wp P a w next Q := by
 refine hstore_sound hE nm ho hf hop hdst hn hx hy (cf := cf) ?_ hk
 simp only [hopv] at hs ⊢
 split at hs
 ·rename_i m off v ha hr
  split at hs
  ·simp at hs
  ·rename_i hl
   have htk : tk st py = some (v, st) := by
    unfold tk
    simp only [rd, Option.bind_eq_some_iff] at hr
    obtain ⟨r, h1, h2⟩ := hr
    rw [h1]
    cases r <;> simp [cp] at h2 <;> subst h2 <;> first | rfl | simp [isList] at hl
   simp only [ha, htk]
   exact hs
 ·simp at hs
theorem hiaddr_sound (hE : EnvOk E N) (nm : Names vs (lmap vs ops)) (ho : ops[j]? = some o) (hf : FI N w G st a vs (lmap vs ops)) {t e : TypeId} {x i : Operand} {px pi : PX} {n len : Nat} (hop : o.op = .indexAddr t x i)
  (hu : P.underlying t = some (.array len e)) (hn : sizeT P e = some n) (hx : cx E vs ops x = some px) (hi : cx E vs ops i = some pi) {cf : CallF} (hs : hopv cf (.iaddr len n px pi) st = some (u, st1)) (hk : Goes N w G a st1 u vs ops j o next) : o.wp P a w next Q := by
 simp only [hopv] at hs
 split at hs
 ·rename_i m off k ha hki
  split at hs
  ·rename_i hb
   simp only [Option.some.injEq, Prod.mk.injEq] at hs
   obtain ⟨rfl, rfl⟩ := hs
   obtain ⟨b, hv, hbb⟩ := addr_ptr hE hx hf ha
   obtain ⟨kk, hik⟩ := rdInt_sound hE hi hf hki
   refine wp_value nm ho hf (v := .pointer (some ⟨b, off + k.toNat * n, none⟩)) ?_ (SR.of_pure (.ptr _ _ b hbb) rfl) hk
   simp [execOp, hop, Instr.indexAt, hik, hv, asIntOf, run_underlying hu, Instr.sureAddr, hb, run_sizeT hn, addr_add]
  ·simp at hs
 ·simp at hs
end
end PI
