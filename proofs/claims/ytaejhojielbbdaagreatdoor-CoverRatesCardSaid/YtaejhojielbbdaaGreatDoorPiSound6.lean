/-
  The pure interpreter is right, 6: slices made, boxes read and written.
-/
import Derived.Test.YtaejhojielbbdaaGreatDoorPiSound5
set_option linter.unusedSimpArgs false
set_option linter.unusedVariables false
set_option linter.unusedSectionVars false
namespace PI
open Go
section
variable {E : Env} {N : Nm} {w : World} {G : GS} {st : St} {a : Act} {vs : List Tmp} {ops : List Oper} {P : Program}
variable {o : Oper} {j : Nat} {next : Act → World → Prop} {Q : Exit → Act → World → Prop} {u : PV} {st1 : St}
/-! ### A row written out -/
def ElemsR (N : Nm) (w : World) (fix : Nat → Nat → Prop) (hp : Nat → Option Nat) (size : Nat) (cs : Array Value) (es : List PV) : Prop :=
 cs.size = es.length * size ∧ ∀ (i : Nat) (e : PV), es[i]? = some e → e.cells.length = size ∧ (∀ x ∈ e.cells, x.flat = true) ∧
  ∀ (k : Nat) (c : Value) (x : PV), cs[i * size + k]? = some c → e.cells[k]? = some x → VR N w fix hp c x
theorem idx_lt {i n k size : Nat} (hi : i < n) (hk : k < size) : i * size + k < n * size := by
 have : (i + 1) * size ≤ n * size := Nat.mul_le_mul_right _ hi
 rw [Nat.add_mul] at this; omega
theorem cells_deep (v : PV) : (deep v).cells = v.cells.map PI.dem := by
 cases v <;> rfl
theorem elems_sound (hE : EnvOk E N) (hf : FI N w G st a vs (lmap vs ops)) {size : Nat} (hs0 : size ≠ 0) : ∀ {parts : List (Nat × Operand)} {ps : List (Nat × PX)} {qs : List (Nat × PV)} {zs rs : List PV} {cs : Array Value},
  cElems E vs ops parts = some ps → rdElems st ps = some qs → setElems size zs qs = some rs → ElemsR N w G.fix G.heap size cs zs →
  ∃ ds, Instr.fill (fun i => some (i * size, size)) cs (parts.map fun (i, x) => (i, a.eval x)) = some ds ∧ ElemsR N w G.fix G.heap size ds rs ∧ rs.length = zs.length
 | [], ps, qs, zs, rs, cs, hc, hr, hset, hR => by
   simp [cElems] at hc; subst hc
   simp [rdElems] at hr; subst hr
   simp [setElems] at hset; subst hset
   exact ⟨cs, rfl, hR, rfl⟩
 | (i, x) :: parts, ps, qs, zs, rs, cs, hc, hr, hset, hR => by
   simp only [cElems, Option.bind_eq_some_iff, Option.map_eq_some_iff] at hc
   obtain ⟨px, hpx, ps', hps, rfl⟩ := hc
   simp only [rdElems, Option.bind_eq_some_iff, Option.map_eq_some_iff] at hr
   obtain ⟨v, hv, qs', hqs, rfl⟩ := hr
   simp only [setElems] at hset
   split at hset
   ·rename_i hcond
    have hvr := (rd_sound hE hpx hf hv).1
    have hcells := CellsR.of_cells hvr (by intro e; rw [e] at hcond; simp at hcond; omega)
    have hsz : (a.eval x).cells.size = size := by have := hcells.1; simp at this; omega
    have hle : i * size + (a.eval x).cells.size ≤ cs.size := by
     rw [hR.1, hsz]
     have : (i + 1) * size ≤ zs.length * size := Nat.mul_le_mul_right _ hcond.2
     rw [Nat.add_mul] at this; omega
    have hnew : ElemsR N w G.fix G.heap size ((a.eval x).cells.zipIdx.foldl (fun (cs : Array Value) (y : Value × Nat) => cs.setIfInBounds (i * size + y.2) y.1) cs) (zs.set i (deep v)) := by
     have hl := fill_list (i * size) (a.eval x).cells cs hle
     have hget : ∀ k, ((a.eval x).cells.zipIdx.foldl (fun (cs : Array Value) (y : Value × Nat) => cs.setIfInBounds (i * size + y.2) y.1) cs)[k]? = if i * size ≤ k ∧ k < i * size + size then (a.eval x).cells[k - i * size]? else cs[k]? := by
      intro k
      have hg := fill_get (i * size) (a.eval x).cells.toList 0 cs k (by simpa using hle)
      have he : (a.eval x).cells.zipIdx.foldl (fun (cs : Array Value) (y : Value × Nat) => cs.setIfInBounds (i * size + y.2) y.1) cs = ((a.eval x).cells.toList.zipIdx 0).foldl (fun (cs : Array Value) (y : Value × Nat) => cs.setIfInBounds (i * size + y.2) y.1) cs := by
       rw [← Array.foldl_toList]; simp
      rw [he, hg]
      simp [hsz]
     refine ⟨?_, ?_⟩
     ·have := congrArg List.length hl
      rw [Array.length_toList, List.length_append, List.length_append, List.length_take, List.length_drop, Array.length_toList, Array.length_toList] at this
      rw [List.length_set, ← hR.1, this]
      omega
     ·intro i' e' he'
      rw [List.getElem?_set] at he'
      split at he'
      ·rename_i hii
       subst hii
       rw [if_pos hcond.2] at he'
       simp at he'; subst he'
       rw [cells_deep]
       refine ⟨by rw [List.length_map]; exact hcond.1, hcells.dem.2.1, ?_⟩
       intro k c y hc hy
       have hk : k < size := by have := (List.getElem?_eq_some_iff.1 hy).1; rw [List.length_map] at this; omega
       rw [hget, if_pos ⟨by omega, by omega⟩, show i * size + k - i * size = k by omega] at hc
       exact hcells.dem.2.2 k c y (by simpa using hc) hy
      ·rename_i hii
       obtain ⟨h1, h2, h3⟩ := hR.2 i' e' he'
       refine ⟨h1, h2, ?_⟩
       intro k c y hc hy
       have hk : k < size := by have := (List.getElem?_eq_some_iff.1 hy).1; omega
       have hout : ¬ (i * size ≤ i' * size + k ∧ i' * size + k < i * size + size) := by
        rintro ⟨ha, hb⟩
        rcases Nat.lt_or_gt_of_ne hii with h | h
        ·have : (i + 1) * size ≤ i' * size := Nat.mul_le_mul_right _ h
         rw [Nat.add_mul] at this; omega
        ·have : (i' + 1) * size ≤ i * size := Nat.mul_le_mul_right _ h
         rw [Nat.add_mul] at this; omega
       rw [hget, if_neg hout] at hc
       exact h3 k c y hc hy
    obtain ⟨ds, h1, h2, h3⟩ := elems_sound hE hf hs0 hps hqs hset hnew
    refine ⟨ds, ?_, h2, by rw [h3, List.length_set]⟩
    simp only [List.map_cons, Instr.fill]
    rw [if_neg (by simp [hsz]; omega)]
    exact h1
   ·simp at hset
/-- A new row, which nobody writes from then on. -/
theorem row_sound (nm : Names vs (lmap vs ops)) (ho : ops[j]? = some o) (hf : FI N w G st a vs (lmap vs ops)) {cs : Array Value} {es : List PV} {T : TypeId} {size : Nat} (hR : ElemsR N w G.fix G.heap size cs es)
  (hrun : (execOp a.eval o).run P w = .ok (.value (.slice (some ⟨w.heap.size, 0, none⟩) es.length es.length)) (w.alloc (.cells cs T)))
  (hk : Goes N w G a st (.list true es) vs ops j o next) : o.wp P a w next Q := by
 unfold Oper.wp
 rw [hrun]
 have hnofix : ∀ o, ¬ G.fix w.heap.size o := fun o h => by have := hf.fixlt _ _ h; omega
 let G' : GS := { G with fix := fun b o => G.fix b o ∨ b = w.heap.size }
 have hext : Ext w G (w.alloc (.cells cs T)) G' := by
  refine ⟨rfl, rfl, rfl, by simp, fun b hb _ => alloc_heap_old hb, fun b o h => ⟨.inl h, alloc_cell_old (hf.fixlt _ _ h)⟩, ?_, fun _ h => .inr h, fun _ _ h => h, .same fun k hk => alloc_heap_old hk, rfl⟩
  rintro b o (h | h)
  ·exact .inl h
  ·exact .inr (.inl (by omega))
 have hkeep : Keep (fun _ => False) w G (w.alloc (.cells cs T)) G' := by
  refine ⟨?_, fun _ _ h => h⟩
  intro b k hb _
  have hlt := hf.owlt _ _ hb
  refine ⟨hb, alloc_heap_old hlt, ?_⟩
  rintro o (h | h)
  ·exact h
  ·omega
 have hf1 := hf.ext (G' := G') hext hkeep hf.gen (fun b k hb => by have := hf.owlt b k hb; simp; omega) (by
  rintro b o (h | h)
  ·have := hf.fixlt _ _ h; simp; omega
  ·simp; omega)
 refine hk _ _ G' (hf1.put nm (cDst_ok ho) ⟨?_, .inl rfl⟩) hext (put_size _ _ _)
 refine .list true w.heap.size 0 es.length es.length size es (fun k => cs.getD k undef) rfl (Nat.le_refl _) ?_ ?_ ?_ ?_
 ·intro e he
  obtain ⟨i, hi⟩ := List.mem_iff_getElem?.1 he
  exact (hR.2 i e hi).1
 ·intro e he
  obtain ⟨i, hi⟩ := List.mem_iff_getElem?.1 he
  exact (hR.2 i e hi).2.1
 ·intro k hk
  rw [← hR.1] at hk
  refine ⟨?_, .inr rfl⟩
  rw [Nat.zero_add, World.cell?_alloc_new]
  simp [hk]
 ·intro i e he k x hx
  obtain ⟨h1, h2, h3⟩ := hR.2 i e he
  have hk : k < size := by have := (List.getElem?_eq_some_iff.1 hx).1; omega
  have hi : i < es.length := (List.getElem?_eq_some_iff.1 he).1
  have hlt : i * size + k < cs.size := by rw [hR.1]; exact idx_lt hi hk
  have := h3 k cs[i * size + k] x (by simp [hlt]) hx
  simp only [Array.getD_eq_getD_getElem?, Array.getElem?_eq_getElem hlt, Option.getD_some]
  exact this.ext hext
theorem built_run (hE : EnvOk E N) (hf : FI N w G st a vs (lmap vs ops)) {t e : TypeId} {len size : Nat} {parts : Array (Nat × Operand)} {z : List PV} {ps : List (Nat × PX)} {qs : List (Nat × PV)} {rs : List PV}
  (hop : o.op = .buildSlice t len parts) (hu : P.underlying t = some (.slice e)) (hn : sizeT P e = some size) (hz : zeroT P e = some z) (hlen : len * size ≤ 16777216) (hc : cElems E vs ops parts.toList = some ps)
  (hq : rdElems st ps = some qs) (hset : setElems size (List.replicate len (if isAggT P e then .agg z else z.headD .dead)) qs = some rs) :
  ∃ ds, ElemsR N w G.fix G.heap size ds rs ∧ (execOp a.eval o).run P w = .ok (.value (.slice (some ⟨w.heap.size, 0, none⟩) rs.length rs.length)) (w.alloc (.cells ds e)) := by
 obtain ⟨ti, zv, h1, h2, h3, h4, h5, _⟩ := zeroT_sound (N := N) (w := w) (fix := G.fix) (hp := G.heap) hz
 obtain ⟨ti', d, hi', hsz', hs0, hd⟩ := info_underlying hn
 have hti : ti' = ti := by rw [h1] at hi'; simpa using hi'.symm
 subst hti
 have hzs : zv.cells.size = size := by have := h5.1; simp at this; omega
 have hzc : (if isAggT P e then PV.agg z else z.headD .dead).cells = z := by
  split
  ·rfl
  ·rename_i hna
   have hs1 := sizeT_one hn (by simpa using hna)
   match z, h4 with
   | [], h => simp at h; omega
   | [p], _ =>
     have := h5.2.1 p (by simp)
     cases p <;> first | rfl | simp [PV.flat] at this
   | _ :: _ :: _, h => simp at h; omega
 let cs0 : Array Value := (Array.range (len * size)).map (zv.cells[· % zv.cells.size]!)
 have hR0 : ElemsR N w G.fix G.heap size cs0 (List.replicate len (if isAggT P e then PV.agg z else z.headD .dead)) := by
  refine ⟨by simp [cs0], ?_⟩
  intro i x hx
  have hx' := List.getElem?_replicate.symm.trans hx
  split at hx'
  ·rename_i hi
   simp only [Option.some.injEq] at hx'
   rw [← hx', hzc]
   refine ⟨by omega, h5.2.1, ?_⟩
   intro k c y hcc hy
   have hk : k < size := by have := (List.getElem?_eq_some_iff.1 hy).1; omega
   have hlt : i * size + k < len * size := idx_lt hi hk
   have hmod : (i * size + k) % size = k := by
    rw [Nat.add_comm, Nat.mul_comm, Nat.add_mul_mod_self_left]; exact Nat.mod_eq_of_lt hk
   simp only [cs0, Array.getElem?_map, Array.getElem?_range, hlt, if_true, Option.map_some, Option.some.injEq, hzs, hmod] at hcc
   have hk' : k < zv.cells.size := by omega
   rw [getElem!_pos zv.cells k hk'] at hcc
   exact h5.2.2 k c y (by rw [← hcc]; simp [hk']) hy
  ·simp at hx'
 obtain ⟨ds, hfill, hR, hlen'⟩ := elems_sound hE hf hs0 hc hq hset hR0
 have hl : rs.length = len := by simpa using hlen'
 refine ⟨ds, hR, ?_⟩
 rw [hl]
 have hbig : ¬ (len * size > 2 ^ 24) := by
  have : (2 : Nat) ^ 24 = 16777216 := by decide
  omega
 have hpl : (parts.map fun (i, x) => (i, a.eval x)).toList = parts.toList.map fun (i, x) => (i, a.eval x) := by simp
 have hbs : (Instr.buildSlice t len (parts.map fun (i, x) => (i, a.eval x))).run P w = .ok (.slice (some ⟨w.heap.size, 0, none⟩) len len) (w.alloc (.cells ds e)) := by
  unfold Instr.buildSlice
  simp only [Sem.run_bind, run_underlying hu, Result.andThen_ok, run_sizeT hn, if_neg hbig]
  by_cases h0 : len * size = 0
  ·have hc0 : (Array.range (len * size)).map ((#[] : Array Value)[· % (#[] : Array Value).size]!) = cs0 := by simp [h0, cs0]
   simp only [if_pos h0, Sem.run_bind, Sem.run_pure, Result.andThen_ok, hc0, hpl, hfill]
   simp [newRow]
  ·simp only [if_neg h0, Sem.run_bind, Sem.run_pure, Result.andThen_ok, zeroValue, typeInfo, run_program, h1, h2, hpl]
   have : Instr.fill (fun i => some (i * size, size)) ((Array.range (len * size)).map (zv.cells[· % zv.cells.size]!)) (parts.toList.map fun (i, x) => (i, a.eval x)) = some ds := hfill
   rw [this]
   simp [newRow]
 simp [execOp, hop, hbs]
theorem mkslice_sound (hE : EnvOk E N) (nm : Names vs (lmap vs ops)) (ho : ops[j]? = some o) (hf : FI N w G st a vs (lmap vs ops)) {t e : TypeId} {len size : Nat} {parts : Array (Nat × Operand)} {z : List PV} {ps : List (Nat × PX)}
  (hop : o.op = .buildSlice t len parts) (hu : P.underlying t = some (.slice e)) (hn : sizeT P e = some size) (hz : zeroT P e = some z) (hlen : len * size ≤ 16777216) (hc : cElems E vs ops parts.toList = some ps) {cf : CallF}
  (hs : opv cf (.mkslice size (if isAggT P e then .agg z else z.headD .dead) len ps) st = some (u, st1)) (hk : Goes N w G a st1 u vs ops j o next) : o.wp P a w next Q := by
 simp only [opv, Option.map_eq_some_iff, Option.bind_eq_some_iff, Prod.mk.injEq] at hs
 obtain ⟨rs, ⟨qs, hq, hset⟩, rfl, rfl⟩ := hs
 obtain ⟨ds, hR, hrun⟩ := built_run hE hf hop hu hn hz hlen hc hq hset
 exact row_sound nm ho hf hR hrun hk
end
end PI
