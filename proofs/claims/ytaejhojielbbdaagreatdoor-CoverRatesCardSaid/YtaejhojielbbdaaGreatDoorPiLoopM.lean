/-
  A range over a map whose round leaves all as it was (but for maps of which nothing is told).
-/
import Derived.Test.YtaejhojielbbdaaGreatDoorPiDef
import Derived.Maps.RangeRun
set_option linter.unusedSimpArgs false
set_option linter.unusedVariables false
set_option linter.unusedSectionVars false
namespace PI
open Go Go.RowKit Go.ChangeMaps
section
variable {E : Env} {N : Nm} {vs : List Tmp} {P : Program} {nt : Nat} {Q : Exit → Act → World → Prop} {L : Nat → Option PFunc} {r : Option Nat} {fid : FuncId}
/-! ### What is told is less -/
theorem FI.kill1 {w : World} {G : GS} {st : St} {a : Act} {lm : Nat → Option Tmp} (h : FI N w G st a vs lm) (i : Nat) : FI N w G { st with vars := st.vars.set i .dead } a vs lm := by
 refine ⟨by simp [h.len], ?_, h.loc, h.tv, h.tl, h.defers, h.gen, h.owlt, h.fixlt, h.heap, h.hdom⟩
 intro i' t' u' h1 h2
 rw [List.getElem?_set] at h2
 split at h2
 ·split at h2
  ·simp at h2; subst h2; trivial
  ·simp at h2
 ·exact h.var i' t' u' h1 h2
theorem FI.killM {w : World} {G : GS} {a : Act} {lm : Nat → Option Tmp} : ∀ {ds : List Nat} {st : St}, FI N w G st a vs lm → FI N w G (killM ds st) a vs lm
 | [], _, h => h
 | i :: ds, st, h => FI.killM (ds := ds) (h.kill1 i)
theorem FI.blob {w : World} {G : GS} {st : St} {a : Act} {lm : Nat → Option Tmp} (h : FI N w G st a vs lm) (o : Option St) : FI N w G (blobM st o) a vs lm := by
 unfold blobM
 split
 ·rename_i s
  split
  ·rename_i hl
   refine ⟨h.len, h.var, h.loc, h.tv, h.tl, h.defers, h.gen, h.owlt, h.fixlt, ⟨?_, h.heap.2⟩, ?_⟩
   ·intro n ob hob
    rw [List.getElem?_zipWith] at hob
    split at hob
    ·rename_i x y hx hy
     simp only [Option.some.injEq] at hob
     subst hob
     rcases h.heap.1 n x hx with rfl | ⟨b, h1, h2, h3⟩
     ·left
      unfold blob1
      split <;> rfl
     ·refine .inr ⟨b, h1, h2, ?_⟩
      unfold blob1
      split
      ·exact h3
      ·cases x <;> try exact h3
       rename_i es hne
       dsimp only
       split
       ·rename_i hall
        obtain ⟨mes, clock, a1, a2, a3, a4, a5⟩ := h3
        refine ⟨mes, clock, a1, ?_⟩
        intro e he
        obtain ⟨i, hi, rfl⟩ := List.getElem_of_mem he
        have hi' : i < es.length := by rw [← a2]; simpa using hi
        have hv := (a5 i _ es[i] (by rw [← Array.getElem?_toList]; exact List.getElem?_eq_getElem hi) (List.getElem?_eq_getElem hi')).1
        have hs := List.all_eq_true.1 hall es[i] (List.getElem_mem hi')
        generalize es[i] = q at hv hs
        obtain ⟨q1, q2⟩ := q
        cases q1 <;> simp [isStr] at hs
        generalize mes.toList[i].key = z at hv ⊢
        cases hv with
        | str s => exact ⟨s, rfl⟩
       ·exact h3
    ·cases hob
   ·intro n b hb
    have := h.hdom n b hb
    simp only [List.length_zipWith]
    omega
  ·exact h
 ·exact h
/-! ### Blocks that are hidden, and told of again -/
/-- A block that nobody owns. -/
def GS.hide (G : GS) (bm n bi : Nat) : GS := { G with ow := fun b => if b = bm then none else G.ow b, heap := fun k => if k = n then some bi else G.heap k }
def GS.own (G : GS) (bm : Nat) (k : Key) : GS := { G with ow := fun b => if b = bm then some k else G.ow b }
theorem Room.grow {w : World} {G : GS} {key : Key} {v : Value} {es : List PV} {bm : Nat} {k : Key} (hm : G.ow bm = none) (h : Room w G key v es) : Room w (G.own bm k) key v es := by
 unfold Room at *
 split at h
 ·rcases h with h | ⟨h1, h2⟩
  ·exact .inl h
  ·refine .inr ⟨?_, h2⟩
   simp only [GS.own]
   rw [if_neg (by rintro rfl; rw [hm] at h1; cases h1)]
   exact h1
 ·trivial
theorem CR.grow {w : World} {G : GS} {key : Key} {v : Value} {p : PV} {bm : Nat} {k : Key} (hm : G.ow bm = none) (h : CR N w G key v p) : CR N w (G.own bm k) key v p := by
 obtain ⟨h1, h2, h3⟩ := h
 refine ⟨h1, h2, ?_⟩
 split at h3
 ·exact Room.grow hm h3
 ·trivial
theorem MR.grow {w : World} {G : GS} {key : Key} {v : Value} {p : PV} {bm : Nat} {k : Key} (hm : G.ow bm = none) (h : MR N w G key v p) : MR N w (G.own bm k) key v p := by
 obtain ⟨h1, h3⟩ := h
 refine ⟨h1, ?_⟩
 split at h3
 ·exact Room.grow hm h3
 ·trivial
theorem own_some {G : GS} {bm b : Nat} {k key : Key} (hm : G.ow bm = none) (h : G.ow b = some key) : (G.own bm k).ow b = some key := by
 simp only [GS.own]
 rw [if_neg (by rintro rfl; rw [hm] at h; cases h)]
 exact h
theorem SR.grow {w : World} {G : GS} {key : Key} {v : Value} {p : PV} {bm : Nat} {k : Key} (hm : G.ow bm = none) (h : SR N w G key v p) : SR N w (G.own bm k) key v p := by
 unfold SR at *
 split at h
 ·trivial
 ·obtain ⟨b, i, hkey, hv, hb, ho, hf, cv, T, h1, h2, h3⟩ := h
  exact ⟨b, i, hkey, hv, hb, own_some hm ho, hf, cv, T, h1, h2, fun k c x hc hx => (h3 k c x hc hx).grow hm⟩
 ·exact h
 ·obtain ⟨b, hv, ho, hf, cv, T, h1, h2, h4, h3⟩ := h
  exact ⟨b, hv, own_some hm ho, hf, cv, T, h1, h2, h4, h3⟩
 ·exact ⟨h.1, Room.grow hm h.2⟩
 ·exact h
theorem ObjR.grow {w : World} {G : GS} {n b : Nat} {ob : PObj} {bm : Nat} {k : Key} (hm : G.ow bm = none) (h : ObjR N w G n b ob) : ObjR N w (G.own bm k) n b ob := by
 cases ob with
 | cells cs =>
   obtain ⟨f, cv, T, a1, a2, a3⟩ := h
   exact ⟨f, cv, T, a1, a2, fun k c x hc hx => (a3 k c x hc hx).grow hm⟩
 | map es =>
   obtain ⟨mes, clock, a1, a2, a3, a4, a5⟩ := h
   exact ⟨mes, clock, a1, a2, a3, a4, fun i en p hi hp => ⟨(a5 i en p hi hp).1, (a5 i en p hi hp).2.grow hm⟩⟩
 | bld bs =>
   obtain ⟨f, p, v, a1, a2, a3⟩ := h
   refine ⟨f, p, v, a1, a2, ?_⟩
   rcases a3 with a3 | ⟨g, cap, cur, b1, b2, b3, b4⟩
   ·exact .inl a3
   ·exact .inr ⟨g, cap, cur, b1, own_some hm b2, b3, b4⟩
 | siter s pos => exact h
 | gone => trivial
 | sblob => exact h
 | loop ready => exact h
 | over id => exact h
theorem Ext.turn {w w1 w2 : World} {G G1 : GS} {b0 : Nat} (h : Ext w G w1 G1) (d : DefW w1 w2) (hb : w.heap.size ≤ b0) (hs : ∀ b, b ≠ b0 → w2.heap[b]? = w1.heap[b]?) : Ext w G w2 G1 :=
 ⟨d.os.trans h.os, d.tape.trans h.tape, d.output.trans h.output, by rw [d.size]; exact h.size, fun b hlt ho => (hs b (by omega)).trans (h.same b hlt ho), fun b o hf => ⟨(h.fix b o hf).1, (d.cell b o).trans (h.fix b o hf).2⟩, h.newfix, h.own, h.heap, h.shape.trans d.shape, h.df⟩
/-! ### Operations -/
theorem op_to {ops : Array Oper} {j : Nat} {o : Oper} {a : Act} {w w' : World} {v : Value} {K : Act → World → Prop} (ho : ops[j]? = some o) (hg : o.guard = none) (hrun : (execOp a.eval o).run P w = .ok (.value v) w') (hk : K (a.put o.dst v) w') : wpOp P ops Q j K a w := by
 unfold wpOp
 simp only [ho]
 rw [if_pos (by simp [Region.wanted, hg])]
 left
 unfold Oper.wp
 rw [hrun]
 exact hk
/-- A part of a region's operations, and what follows. -/
theorem opsL_part {ops : Array Oper} (hF : FnsOK N P L) (hE : EnvOk E N) (hP : E.P = P) (nm : Names vs (lmap vs ops.toList)) {cf : CallF} (hcf : CallOK N P cf)
  (hcL : ∀ k args h r, cf k args h = some r → ∃ f, L k = some f) {pos : List PO} (hc : cOpers E vs ops.toList ops.toList = some pos) {rest : List Nat} :
  ∀ {l : List Nat} {st st' : St} {w : World} {G : GS} {a : Act}, execL cf pos l st = some st' → FI N w G st a vs (lmap vs ops.toList) → Next1 N w G a st' vs ops.toList (wpOps P ops Q rest) → wpOps P ops Q (l ++ rest) a w
 | [], st, st', w, G, a, h, hf, hk => by
   simp [execL] at h; subst h
   exact hk _ _ G hf (Ext.refl _ _) rfl
 | i :: l, st, st', w, G, a, h, hf, hk => by
   simp only [execL] at h
   split at h
   ·rename_i p hp
    simp only [Option.bind_eq_some_iff] at h
    obtain ⟨st1, h1, h2⟩ := h
    have hlt : i < ops.toList.length := by rw [(cOpers_get hc).1]; exact (List.getElem?_eq_some_iff.1 hp).1
    obtain ⟨p', hp', hcp⟩ := (cOpers_get hc).2 i ops.toList[i] (List.getElem?_eq_getElem hlt)
    have : p' = p := by rw [hp] at hp'; simpa using hp'.symm
    subst this
    rw [List.cons_append, wpOps_cons]
    refine step1_sound hF hE hP nm (o := ops.toList[i]) (by simp) hf hcf hcL hcp h1 ?_
    intro a' w' G' hf' he hs
    exact opsL_part hF hE hP nm hcf hcL hc h2 hf' (hk.trans he hs)
   ·simp at h
/-! ### The loop -/
theorem FI.putOut {w : World} {G : GS} {st : St} {a : Act} {t : Tmp} {v : Value} (h : FI N w G st a vs (fun _ => none)) (hn : idxIn t vs 0 = none) (ht : t < a.tmps.size) : FI N w G st (a.put (some t) v) vs (fun _ => none) :=
 ⟨h.len, fun i t' u h1 h2 => by rw [put_eval _ _ _ _ ht, if_neg (by rintro rfl; exact idxIn_none hn i h1)]; exact h.var i t' u h1 h2, (fun j t' u h1 => by cases h1), (fun i t' h1 => by rw [put_size]; exact h.tv i t' h1), (fun j t' h1 => by cases h1), h.defers, h.gen, h.owlt, h.fixlt, h.heap, h.hdom⟩
/-- The map is told of again. -/
theorem FI.restore {w : World} {G : GS} {st : St} {a : Act} {lm : Nat → Option Tmp} {m bm : Nat} {es : List (PV × PV)} {mes : Array MapEntry} {clock : Nat} (h : FI N w G st a vs lm) (hm : G.ow bm = none) (hhp : G.heap m = some bm)
  (hw : w.heap[bm]? = some (.map mes clock)) (c2 : mes.size = es.length) (c3 : ∀ (i : Nat) (e : MapEntry), mes[i]? = some e → e.born < clock) (c4 : ∀ (i i' : Nat) (e e' : MapEntry), mes[i]? = some e → mes[i']? = some e' → e.born = e'.born → i = i')
  (c5 : ∀ (i : Nat) (e : MapEntry) (p : PV × PV), mes[i]? = some e → es[i]? = some p → VR N w G.fix G.heap e.key p.1 ∧ VR N w G.fix G.heap e.val p.2) :
  FI N w (G.own bm (.hobj m)) { st with heap := st.heap.set m (.map (es.map fun e => (e.1, dem e.2))) } a vs lm := by
 refine ⟨h.len, fun i t u h1 h2 => (h.var i t u h1 h2).grow hm, fun j t u h1 h2 => (h.loc j t u h1 h2).grow hm, h.tv, h.tl, h.defers, h.gen, ?_, h.fixlt, ⟨?_, h.heap.2⟩, ?_⟩
 ·intro b k hb
  simp only [GS.own] at hb
  split at hb
  ·rename_i e; subst e; exact (Array.getElem?_eq_some_iff.1 hw).1
  ·exact h.owlt b k hb
 ·intro n ob hob
  rw [List.getElem?_set] at hob
  split at hob
  ·rename_i e; subst e
   split at hob
   ·simp only [Option.some.injEq] at hob
    subst hob
    refine .inr ⟨bm, hhp, by simp [GS.own], mes, clock, hw, by simp [c2], c3, c4, ?_⟩
    intro i e p hi hp
    rw [List.getElem?_map] at hp
    obtain ⟨q, hq, rfl⟩ := Option.map_eq_some_iff.1 hp
    obtain ⟨d1, d2⟩ := c5 i e q hi hq
    refine ⟨d1, d2.dem, ?_⟩
    show match dem q.2 with | .list true es => _ | _ => True
    split
    ·rename_i h; exact absurd h (dem_notOwn _ _)
    ·trivial
   ·cases hob
  ·rcases h.heap.1 n ob hob with e | ⟨b, h1, h2, h3⟩
   ·exact .inl e
   ·exact .inr ⟨b, h1, own_some hm h2, h3.grow hm⟩
 ·simp only [List.length_set]; exact h.hdom
theorem execL_take {cf : CallF} {q : List PO} {k : Nat} : ∀ {l : List Nat} {st : St}, (∀ i ∈ l, i < k) → execL cf (q.take k) l st = execL cf q l st
 | [], st, _ => rfl
 | i :: l, st, h => by
   have hi : (q.take k)[i]? = q[i]? := by rw [List.getElem?_take, if_pos (h i (by simp))]
   simp only [execL, hi]
   split
   ·congr 1
    funext s
    exact execL_take (fun j hj => h j (List.mem_cons_of_mem _ hj))
   ·rfl
theorem mloop_sound (hF : FnsOK N P L) (hE : EnvOk E N) (hP : E.P = P) (hmix : P.follows .mixedOrders = true) (hnd : vs.Nodup) {cf : CallF} (hcf : CallOK N P cf) (hcL : ∀ k args h r, cf k args h = some r → ∃ f, L k = some f)
  {id0 : Nat} {ops0 : Array Oper} {y : Code} {p : PC} (hc : compM E nt vs ops0 y = some p) : ∃ pos0 px it ds pos2 pos3, p = .mloop pos0 px it ds pos2 pos3 ∧ ∀ {w : World} {G : GS} {st st' : St} {a : Act}, runM cf pos0 px it ds pos2 pos3 st = some st' → BI N w G st a vs nt → ¬ LetsOut Q →
   (∀ a' w' G', BI N w' G' st' a' vs nt → Ext w G w' G' → Q .normal a' w') → wpN r fid P (.seq (.region id0 ops0 false) y) Q a w := by
 unfold compM at hc
 split at hc
 ·rename_i bid i1 ops1 c bid' ib3 i2 ops2 i3 ops3 d3
  split at hc
  ·rename_i it t x ty0 ps0 af0 t1 it1 ty1 ps1 af1 t2 t1' ty2 ps2 af2 t3 it2 ty3 ps3 af3 tail h0 h1 h2
   split at hc
   ·rename_i key elem iv hu hiv
    split at hc
    ·rename_i hcond
     simp only [Option.bind_eq_some_iff, Option.map_eq_some_iff] at hc
     obtain ⟨q0, hq0, px, hpx, q2, hq2, q3, hq3, rfl⟩ := hc
     refine ⟨_, _, _, _, _, _, rfl, ?_⟩
     intro w G st st' a hs hb hQ hk
     obtain ⟨rfl, rfl, rfl, rfl, rfl, hne12, hn1, hn2, hn3, hl1, hl2, h00, hcnd⟩ := hcond
     simp only [Bool.and_eq_true] at hcnd
     obtain ⟨⟨⟨⟨⟨ho0, hd0⟩, hf0⟩, ho2⟩, hd2⟩, hf2⟩ := hcnd
     simp only [Option.isNone_iff_eq_none] at hn1 hn2 hn3
     have nm0 := names_ok hnd ho0
     have nm2 := names_ok hnd ho2
     have hget0 : ops0.toList[ops0.size - 1]? = some { dst := some it2, op := Op.range t x, type := ty0, pos := ps0, after := af0, guard := none } := by
      have := congrArg List.head? h0
      simpa [List.head?_drop] using this
     have hlen0 : q0.length = ops0.size := by have := (cOpers_get hq0).1; simpa using this.symm
     have hlen2 : q2.length = ops2.size := by have := (cOpers_get hq2).1; simpa using this.symm
     have hs2 : ops2.size = tail.length + 1 := by rw [← Array.length_toList, h2]; rfl
     generalize hds : (q2.filterMap fun o => match o.dst with | .v i => some i | _ => none) = ds at hs
     unfold runM at hs
     simp only [Option.bind_eq_some_iff] at hs
     obtain ⟨st0, hx0, hs⟩ := hs
     split at hs
     ·rename_i m hrd
      split at hs
      ·rename_i es hm
       split at hs
       ·rename_i hall
        obtain ⟨hall, hit, hgone⟩ := hall
        simp only [Option.some.injEq] at hs
        subst hs
        generalize hs2' : headM cf ds (q2.drop 1) q3 m iv es st0 = s2 at hall hit hgone hk
        refine wpN_seq (wpN_of (n := 0) (wpIn_region (wpOpsIn_of (noDefer_spec hf0) (letsOut_then hQ) ?_)))
        have hrange : List.range ops0.size = List.range' 0 (ops0.size - 1) ++ [ops0.size - 1] := by
         rw [List.range_eq_range']
         have : ops0.size = ops0.size - 1 + 1 := by omega
         conv => lhs; rw [this]
         rw [List.range'_concat]
         simp
        rw [hrange]
        have hx0' : execL cf q0 (List.range' 0 (ops0.size - 1)) (begun (q0.take (ops0.size - 1)).length st) = some st0 := by
         rw [← execL_take (k := ops0.size - 1) (fun i hi => by simp [List.mem_range'_1] at hi; exact hi)]
         rw [execFrom_L (all := q0.take (ops0.size - 1)) (by simp)] at hx0
         rw [show (q0.take (ops0.size - 1)).length = ops0.size - 1 by rw [List.length_take]; omega] at hx0 ⊢
         exact hx0
        refine opsL_part hF hE hP nm0 hcf hcL hq0 hx0' (FI.begin hb (lmap vs ops0.toList) (lmap_lt hd0) _) ?_
        intro a0 w0 G0 hf0' he0 hz0
        have hxv := (rd_sound hE hpx hf0' hrd).1
        generalize hxe : a0.eval x = xv at hxv
        cases hxv with
        | map _ bm hbm =>
        obtain ⟨how, _, hobj⟩ := map_open hf0' (n := m) (es := es) (by simp [mget, hm]) hbm
        obtain ⟨mes, clock, c1, c2, c3, c4, c5⟩ := hobj
        have hu' : P.underlying t = some (.map key elem) := by rw [← hP]; exact hu
        have hbmlt : bm < w0.heap.size := hf0'.owlt _ _ how
        have hmlt : m < st0.heap.length := (List.getElem?_eq_some_iff.1 hm).1
        have hext1 : Ext w0 G0 (w0.alloc (.mapIter (some bm) clock #[] clock)) (G0.hide bm st0.heap.length w0.heap.size) := by
         refine ⟨rfl, rfl, rfl, by simp, fun b hlt _ => alloc_heap_old hlt, fun b o h => ⟨h, alloc_cell_old (hf0'.fixlt b o h)⟩, fun _ _ h => .inl h, ?_, ?_, ShapeLe.same (fun k hk => alloc_heap_old hk), rfl⟩
         ·intro b h
          simp only [GS.hide] at h
          split at h
          ·exact absurd rfl h
          ·exact .inr h
         ·intro n b h
          simp only [GS.hide]
          rw [if_neg (by have := hf0'.hdom n b h; omega)]
          exact h
        have hkeep1 : Keep (fun k => k = .hobj m) w0 G0 (w0.alloc (.mapIter (some bm) clock #[] clock)) (G0.hide bm st0.heap.length w0.heap.size) := by
         refine ⟨fun b k hbk hn => ⟨?_, alloc_heap_old (hf0'.owlt _ _ hbk), fun o h => h⟩, fun g b h => h⟩
         simp only [GS.hide]
         rw [if_neg (by rintro rfl; rw [how] at hbk; cases hbk; exact hn rfl)]
         exact hbk
        have hf1 : FI N (w0.alloc (.mapIter (some bm) clock #[] clock)) (G0.hide bm st0.heap.length w0.heap.size) { st0 with heap := st0.heap.set m .gone ++ [.gone] } a0 vs (lmap vs ops0.toList) := by
         refine ⟨hf0'.len, fun i t' u' h1 h2 => (hf0'.var i t' u' h1 h2).keep hext1 hkeep1 (by simp) (by simp), fun i t' u' h1 h2 => (hf0'.loc i t' u' h1 h2).keep hext1 hkeep1 (by simp) (by simp), hf0'.tv, hf0'.tl, hf0'.defers, hf0'.gen, ?_, ?_, ?_, ?_⟩
         ·intro b k h
          simp only [GS.hide] at h
          split at h
          ·cases h
          ·have := hf0'.owlt b k h; simp; omega
         ·intro b o h
          have := hf0'.fixlt b o h; simp; omega
         ·have h3 := hf0'.heap.keepBut (m := m) (ob' := .gone) hext1 hkeep1 (fun n k hne => ⟨by simp; omega, by simp⟩) (fun _ => .inl rfl)
          refine ⟨?_, h3.2⟩
          intro n ob hob
          rw [List.getElem?_append] at hob
          split at hob
          ·exact h3.1 n ob hob
          ·left
           cases hz : n - (st0.heap.set m PObj.gone).length with
           | zero => rw [hz] at hob; simpa using hob.symm
           | succ z => rw [hz] at hob; simp at hob
         ·intro n b h
          simp only [GS.hide] at h
          simp only [List.length_append, List.length_set, List.length_singleton]
          split at h
          ·omega
          ·have := hf0'.hdom n b h; omega
        have hcd : cDst vs (some it2) = .v iv := by simp [cDst, hiv]
        have hput := hf1.put (j := ops0.size - 1) (d := .v iv) (dst := some it2) (v := .pointer (some ⟨w0.heap.size, 0, none⟩)) (u := .ptr st0.heap.length 0) nm0 (by have := cDst_ok (vs := vs) hget0; rw [hcd] at this; exact this)
         (VR.ptr _ _ w0.heap.size (by simp [GS.hide]))
        rw [wpOps_cons]
        refine op_to (j := ops0.size - 1) (v := .pointer (some ⟨w0.heap.size, 0, none⟩)) (w' := w0.alloc (.mapIter (some bm) clock #[] clock)) (by simpa using hget0) rfl ?_ ?_
        ·have := run_range_map (P := P) w0 t key elem bm mes clock hu' c1
         simp only [execOp, hxe, Sem.run_bind, Sem.run_map, this, Result.andThen_ok, Sem.run_pure]
        show wpN r fid P _ Q _ _
        have hb1 : BI N (w0.alloc (.mapIter (some bm) clock #[] clock)) (G0.hide bm st0.heap.length w0.heap.size) s2 (a0.put (some it2) (.pointer (some ⟨w0.heap.size, 0, none⟩))) vs nt := by
         have hfin := FI.finish (nt := nt) hput (by rw [put_size, hz0]; exact hb.size)
         refine ⟨?_, hfin.size⟩
         rw [← hs2']; unfold headM
         have h4 := hfin.fi.killM (ds := ds)
         cases es with
         | nil => exact h4
         | cons e es => exact h4.blob _
        generalize a0.put (some it2) (.pointer (some ⟨w0.heap.size, 0, none⟩)) = a1 at hb1
        have hvr5 : ∀ (i : Nat) (e : MapEntry) (p : PV × PV), mes[i]? = some e → es[i]? = some p → ∀ {w' : World} {G' : GS}, Ext w0 G0 w' G' → VR N w' G'.fix G'.heap e.key p.1 ∧ VR N w' G'.fix G'.heap e.val p.2 := fun i e p h1 h2 w' G' he => ⟨(c5 i e p h1 h2).1.ext he, (c5 i e p h1 h2).2.1.ext he⟩
        have hnodup : (mes.toList.map (·.born)).Nodup := by
         refine List.pairwise_iff_getElem.2 ?_
         intro i j hi hj hij
         have hj' : j < mes.size := by simpa using hj
         have hi' : i < mes.size := by omega
         simp only [List.getElem_map, Array.getElem_toList]
         intro e
         have := c4 i j mes[i] mes[j] (Array.getElem?_eq_getElem hi') (Array.getElem?_eq_getElem hj') e
         omega
        have hold : ∀ x ∈ mes.toList, x.born < clock := by
         intro x hx
         obtain ⟨i, hi, rfl⟩ := List.getElem_of_mem hx
         exact c3 i _ (by rw [← Array.getElem?_toList]; exact List.getElem?_eq_getElem hi)
        have hvi : vs[iv]? = some it2 := by simpa using (idxIn_some hiv).2
        have hnd1 : ∀ (i : Nat) (o : Oper) c, ops1[i]? = some o → o.op ≠ .defer c := by
         intro i o c ho e
         have : o ∈ ops1.toList := List.mem_of_getElem? (by simpa using ho)
         rw [h1] at this
         simp only [List.mem_cons, List.not_mem_nil, or_false] at this
         rcases this with rfl | rfl <;> cases e
        have hs1 : ops1.size = 2 := by rw [← Array.length_toList, h1]; rfl
        have ho10 : ops1[0]? = some { dst := some t1', op := Op.next (.tmp it2) false, type := ty1, pos := ps1, after := af1, guard := none } := by rw [← Array.getElem?_toList, h1]; rfl
        have ho11 : ops1[1]? = some { dst := some t2, op := Op.extract (.tmp t1') 0, type := ty2, pos := ps2, after := af2, guard := none } := by rw [← Array.getElem?_toList, h1]; rfl
        have ho20 : ops2[0]? = some { dst := some t3, op := Op.entry (.tmp it2), type := ty3, pos := ps3, after := af3, guard := none } := by rw [← Array.getElem?_toList, h2]; rfl
        refine wpN_block (wpN_loop_rounds ((leftOf mes #[]).size + 1) ?_)
        have rounds : ∀ (k : Nat) (seen : Array Nat) (c0 : Nat) (a' : Act) (w' : World) (G' : GS), (leftOf mes seen).size < k → BI N w' G' s2 a' vs nt → Ext w0 G0 w' G' → clock ≤ c0 → w'.heap[w0.heap.size]? = some (.mapIter (some bm) clock seen c0) →
          w'.heap[bm]? = some (.map mes clock) → G'.ow w0.heap.size = none → G'.ow bm = none → G'.heap st0.heap.length = some w0.heap.size →
          roundsN r fid P ((Code.region i1 ops1 false).seq ((Code.cond (.tmp t2) .skip (.exit bid')).seq (.block ib3 ((Code.region i2 ops2 false).seq (Code.region i3 ops3 d3))))) (Exit.inBlock bid' Q) k a' w' := by
         intro k
         induction k with
         | zero => intro seen c0 a' w' G' hlt; omega
         | succ k ih =>
           intro seen c0 a' w' G' hlt hb' hx' hcl hwi hwm hoi hom hgi
           rw [roundsN_succ]
           have hG'm : G'.heap m = some bm := hx'.heap _ _ hbm
           have hitv : a'.eval (.tmp it2) = .pointer (some ⟨w0.heap.size, 0, none⟩) := by
            have h4 : VR N w' G'.fix G'.heap (a'.eval (.tmp it2)) (.ptr st0.heap.length 0) := hb'.fi.var iv it2 _ hvi hit
            generalize a'.eval (.tmp it2) = z at h4
            cases h4 with
            | ptr _ _ b h5 => rw [hgi] at h5; cases h5; rfl
           refine wpN_seq (wpN_of (n := 0) (wpIn_region (wpOpsIn_of hnd1 (letsOut_then (letsOut_then (letsOut_block hQ))) ?_)))
           rw [hs1, show List.range 2 = [0, 1] from rfl, wpOps_cons]
           have hlt1 : t1' < a'.tmps.size := Nat.lt_of_lt_of_le hl1 hb'.size
           have hlt2 : t2 < (a'.put (some t1') (.tuple #[.bool false])).tmps.size := by rw [put_size]; exact Nat.lt_of_lt_of_le hl2 hb'.size
           have hext : ∀ (x : Bool) (vals : List Value) (w2 : World), (execOp (a'.put (some t1') (.tuple (.bool x :: vals).toArray)).eval { dst := some t2, op := Op.extract (.tmp t1') 0, type := ty2, pos := ps2, after := af2, guard := none }).run P w2 = .ok (.value (.bool x)) w2 := by
            intro x vals w2
            have : (a'.put (some t1') (.tuple (.bool x :: vals).toArray)).eval (.tmp t1') = .tuple (.bool x :: vals).toArray := by rw [put_eval _ _ _ _ hlt1, if_pos rfl]
            simp [execOp, Instr.extract, this]
           rcases run_next_at (P := P) w' ty1 w0.heap.size bm clock c0 seen mes clock hwi hwm hold hcl with ⟨hz, hn⟩ | ⟨e, he, w1', hw1, hn⟩
           ·skip
            refine op_to (v := .tuple #[.bool false]) (w' := w') ho10 rfl ?_ ?_
            ·simp only [execOp, hitv, Sem.run_bind, Sem.run_map, hn, Result.andThen_ok, Sem.run_pure]
            rw [wpOps_cons]
            refine op_to (v := .bool false) (w' := w') ho11 rfl (hext false [] w') ?_
            show wpN r fid P _ _ _ _
            refine wpN_seq (wpN_cond (t := false) ?_ (wpN_exit ?_))
            ·rw [put_eval _ _ _ _ hlt2, if_pos rfl]
            show Exit.inBlock bid' Q (.exit bid') _ _
            simp only [Exit.inBlock, if_true]
            have hfo := (hb'.fi.putOut (v := .tuple #[.bool false]) hn1 hlt1).putOut (v := .bool false) hn2 hlt2
            refine hk _ _ (G'.own bm (.hobj m)) ⟨hfo.restore hom hG'm hwm c2 c3 c4 (fun i e p h1 h2 => hvr5 i e p h1 h2 hx'), by rw [put_size, put_size]; exact hb'.size⟩ ?_
            have hx2 := he0.trans hx'
            refine ⟨hx2.os, hx2.tape, hx2.output, hx2.size, hx2.same, hx2.fix, hx2.newfix, ?_, hx2.heap, hx2.shape, hx2.df⟩
            intro b h
            simp only [GS.own] at h
            split at h
            ·rename_i e; subst e
             exact he0.own _ (by rw [how]; simp)
            ·exact hx2.own b h
           ·skip
            obtain ⟨hh, ho1, ho2, ho3⟩ : w1'.heap = w'.heap ∧ w1'.os = w'.os ∧ w1'.tape = w'.tape ∧ w1'.output = w'.output := by rcases hw1 with rfl | rfl <;> exact ⟨rfl, rfl, rfl, rfl⟩
            have hlti : w0.heap.size < w'.heap.size := (Array.getElem?_eq_some_iff.1 hwi).1
            have hoth : ∀ b, b ≠ w0.heap.size → (setBlock w1' w0.heap.size (.mapIter (some bm) clock (seen.push e.born) clock)).heap[b]? = w'.heap[b]? := by
             intro b hbi
             simp only [setBlock, hh, Array.getElem?_setIfInBounds]
             rw [if_neg (Ne.symm hbi)]
            have hwi2 : (setBlock w1' w0.heap.size (.mapIter (some bm) clock (seen.push e.born) clock)).heap[w0.heap.size]? = some (.mapIter (some bm) clock (seen.push e.born) clock) := by
             simp [setBlock, hh, hlti]
            have hd : DefW w' (setBlock w1' w0.heap.size (.mapIter (some bm) clock (seen.push e.born) clock)) := by
             refine ⟨ho1, ho2, ho3, by simp [setBlock, hh], ?_⟩
             intro b
             by_cases hbi : b = w0.heap.size
             ·subst hbi
              exact .inr ⟨⟨.mapIter (some bm) clock seen c0, rfl, hwi⟩, .mapIter (some bm) clock (seen.push e.born) clock, rfl, hwi2⟩
             ·exact .inl (hoth b hbi)
            generalize hw2 : setBlock w1' w0.heap.size (.mapIter (some bm) clock (seen.push e.born) clock) = w2 at hd hoth hwi2 hn
            have hwm2 : w2.heap[bm]? = some (.map mes clock) := (hoth bm (by omega)).trans hwm
            have hx2 : Ext w0 G0 w2 G' := hx'.turn hd (Nat.le_refl _) hoth
            have hb2 := hb'.def' hd
            refine op_to (v := .tuple #[.bool true, e.key, e.val]) (w' := w2) ho10 rfl ?_ ?_
            ·simp only [execOp, hitv, Sem.run_bind, Sem.run_map, hn, Result.andThen_ok, Sem.run_pure]
            rw [wpOps_cons]
            refine op_to (v := .bool true) (w' := w2) ho11 rfl (hext true [e.key, e.val] w2) ?_
            show wpN r fid P _ _ _ _
            have hlt2' : t2 < (a'.put (some t1') (.tuple #[.bool true, e.key, e.val])).tmps.size := by rw [put_size]; exact Nat.lt_of_lt_of_le hl2 hb'.size
            refine wpN_seq (wpN_cond (t := true) ?_ (wpN_skip ?_))
            ·rw [put_eval _ _ _ _ hlt2', if_pos rfl]
            have hb3 : BI N w2 G' s2 ((a'.put (some t1') (.tuple #[.bool true, e.key, e.val])).put (some t2) (.bool true)) vs nt :=
             ⟨(hb2.fi.putOut (v := .tuple #[.bool true, e.key, e.val]) hn1 hlt1).putOut (v := .bool true) hn2 hlt2', by rw [put_size, put_size]; exact hb2.size⟩
            have hitv3 : ((a'.put (some t1') (.tuple #[.bool true, e.key, e.val])).put (some t2) (.bool true)).eval (.tmp it2) = .pointer (some ⟨w0.heap.size, 0, none⟩) := by
             have h4 : VR N w2 G'.fix G'.heap _ (.ptr st0.heap.length 0) := hb3.fi.var iv it2 _ hvi hit
             generalize ((a'.put (some t1') (.tuple #[.bool true, e.key, e.val])).put (some t2) (.bool true)).eval (.tmp it2) = z at h4
             cases h4 with
             | ptr _ _ b h5 => rw [hgi] at h5; cases h5; rfl
            generalize (a'.put (some t1') (.tuple #[.bool true, e.key, e.val])).put (some t2) (.bool true) = a2 at hb3 hitv3
            show wpN r fid P (.block ib3 _) _ _ _
            have hmem := (mem_left he).1
            obtain ⟨j, hj, hje⟩ := List.getElem_of_mem hmem
            have hj1 : mes[j]? = some e := by rw [← Array.getElem?_toList, List.getElem?_eq_getElem hj, hje]
            have hj2 : j < es.length := by rw [← c2]; simpa using hj
            have hround := List.all_eq_true.1 hall es[j] (List.getElem_mem hj2)
            have hvr := hvr5 j e es[j] hj1 (List.getElem?_eq_getElem hj2) hx2
            generalize es[j] = q at hround hvr
            simp only [decide_eq_true_eq, roundM, Option.bind_eq_some_iff, Option.map_eq_some_iff] at hround
            obtain ⟨s3, hx3, s4, hx4, hkill⟩ := hround
            refine wpN_block (wpN_seq (wpN_of (n := 0) (wpIn_region (wpOpsIn_of (noDefer_spec hf2) (letsOut_then (letsOut_block (letsOut_then (letsOut_block hQ)))) ?_))))
            have hrange2 : List.range ops2.size = 0 :: (List.range' 1 (q2.drop 1).length ++ []) := by
             rw [List.length_drop, hlen2, hs2, List.range_eq_range', List.range'_succ]
             simp
            rw [hrange2, wpOps_cons]
            refine op_to (v := .tuple #[e.key, e.val]) (w' := w2) ho20 rfl ?_ ?_
            ·have := run_entry_at (P := P) w2 w0.heap.size bm clock seen mes clock e hwi2 hwm2 hmem hnodup
             simp only [execOp, hitv3, Sem.run_bind, Sem.run_map, this, Result.andThen_ok, Sem.run_pure]
            have hfb := FI.begin hb3 (lmap vs ops2.toList) (lmap_lt hd2) ((q2.drop 1).length + 1)
            have hcd3 : cDst vs (some t3) = .l := by simp [cDst, hn3]
            have hfp := hfb.put (j := 0) (d := .l) (dst := some t3) (v := .tuple #[e.key, e.val]) (u := .tuple [q.1, dem q.2]) nm2 (by have := cDst_ok (vs := vs) (show ops2.toList[0]? = some _ by simpa using ho20); rw [hcd3] at this; exact this)
             (VR.tuple _ _ rfl (by
              intro i c p h1 h2
              match i with
              | 0 => simp at h1 h2; subst h1 h2; exact hvr.1
              | 1 => simp at h1 h2; subst h1 h2; exact hvr.2.dem
              | i + 2 => simp at h2))
            have hx3' : execL cf q2 (List.range' 1 (q2.drop 1).length) (put (begun ((q2.drop 1).length + 1) s2) 0 .l (.tuple [q.1, dem q.2])) = some s3 := by
             rw [← execFrom_L (all := q2) rfl]
             exact hx3
            refine opsL_part hF hE hP nm2 hcf hcL hq2 hx3' hfp ?_
            intro a3 w3 G3 hf3 he3 hz3
            show wpN r fid P _ _ _ _
            have hb4 := FI.finish (nt := nt) hf3 (by rw [hz3, put_size]; exact hb3.size)
            refine wpN_of (n := 0) (region_sound hF hE hP hmix hnd hcf hcL hq3 hx4 hb4 (letsOut_block (letsOut_then (letsOut_block hQ))) ?_)
            intro a4 w4 G4 hf4 he4 hz4
            show roundsN r fid P _ (Exit.inBlock bid' Q) k a4 w4
            have hb5 := FI.finish (nt := nt) hf4 hz4
            have he34 := he3.trans he4
            have hsz2 : w0.heap.size < w2.heap.size := (Array.getElem?_eq_some_iff.1 hwi2).1
            have hszm : bm < w2.heap.size := (Array.getElem?_eq_some_iff.1 hwm2).1
            refine ih (seen.push e.born) clock a4 w4 G4 (by have := left_shrinks mes seen e he; omega) ⟨?_, hb5.size⟩ (hx2.trans he34) (Nat.le_refl _) ((he34.same _ hsz2 hoi).trans hwi2) ((he34.same _ hszm hom).trans hwm2) ?_ ?_ (he34.heap _ _ hgi)
            ·have := hb5.fi.killM (ds := ds)
             rw [hkill] at this
             exact this
            ·cases h : G4.ow w0.heap.size with
             | none => rfl
             | some z => rcases he34.own w0.heap.size (by rw [h]; simp) with h5 | h5
                         ·omega
                         ·exact absurd hoi h5
            ·cases h : G4.ow bm with
             | none => rfl
             | some z => rcases he34.own bm (by rw [h]; simp) with h5 | h5
                         ·omega
                         ·exact absurd hom h5
        refine rounds _ #[] clock a1 _ _ (Nat.lt_succ_self _) hb1 hext1 (Nat.le_refl _) alloc_heap_new ((alloc_heap_old hbmlt).trans c1) ?_ (by simp [GS.hide]) (by simp [GS.hide])
        simp only [GS.hide]
        rw [if_neg (by omega)]
        cases h : G0.ow w0.heap.size with
        | none => rfl
        | some z => exact absurd (hf0'.owlt _ _ h) (by omega)
       ·cases hs
      ·cases hs
     ·cases hs
    ·cases hc
   ·cases hc
  ·cases hc
 ·cases hc
end
end PI
