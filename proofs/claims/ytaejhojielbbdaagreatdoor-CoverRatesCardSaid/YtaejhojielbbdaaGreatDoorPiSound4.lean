/-
  The pure interpreter is right, 4: slices, min and max, aggregates.
-/
import Derived.Test.YtaejhojielbbdaaGreatDoorPiSound3
set_option linter.unusedSimpArgs false
set_option linter.unusedVariables false
set_option linter.unusedSectionVars false
namespace PI
open Go
section
variable {E : Env} {N : Nm} {w : World} {G : GS} {st : St} {a : Act} {vs : List Tmp} {ops : List Oper} {P : Program}
variable {o : Oper} {j : Nat} {next : Act → World → Prop} {Q : Exit → Act → World → Prop} {u : PV} {st1 : St}
theorem run_sliceBound {n : Int} {y : Nat} {k : IntKind} (h0 : 0 ≤ n) (h1 : n ≤ y) (c : BoundsCode) : (Instr.sliceBound (.int k n) y c).run P w = .ok n.toNat w := by
 simp [Instr.sliceBound, asIntOf, h0, h1]
/-- A bound that may be left out. -/
theorem bound_sound (hE : EnvOk E N) (hf : FI N w G st a vs (lmap vs ops)) {x : Option Operand} {px : Option PX} {dflt most r : Nat} (hc : cxo E vs ops x = some px) (hr : bound st px dflt most = some r) :
  (x = none ∧ r = dflt) ∨ ∃ y k n, x = some y ∧ a.eval y = .int k n ∧ 0 ≤ n ∧ n ≤ most ∧ r = n.toNat := by
 cases x with
 | none => simp [cxo] at hc; subst hc; simp [bound] at hr; exact .inl ⟨rfl, hr.symm⟩
 | some y =>
   simp only [cxo, Option.map_eq_some_iff] at hc
   obtain ⟨p, hp, rfl⟩ := hc
   simp only [bound] at hr
   split at hr
   ·rename_i n hn
    split at hr
    ·rename_i hb
     simp at hr
     obtain ⟨k, hk⟩ := rdInt_sound hE hp hf hn
     exact .inr ⟨y, k, n, rfl, hk, hb.1, hb.2, hr.symm⟩
    ·simp at hr
   ·simp at hr
theorem run_sliceBounds (hE : EnvOk E N) (hf : FI N w G st a vs (lmap vs ops)) {lo hi : Option Operand} {pl ph : Option PX} {isSlice : Bool} {len cap l h : Nat} (hcap : len ≤ cap)
  (hl : cxo E vs ops lo = some pl) (hh : cxo E vs ops hi = some ph) (h1 : bound st ph len len = some h) (h2 : bound st pl 0 h = some l) :
  (Instr.sliceBounds isSlice len cap (lo.map a.eval) (hi.map a.eval) none).run P w = .ok (l, h, cap) w ∧ l ≤ h ∧ h ≤ len := by
 have hH := bound_sound hE hf hh h1
 have hL := bound_sound hE hf hl h2
 have hhl : h ≤ len := by rcases hH with ⟨_, rfl⟩ | ⟨_, _, n, _, _, _, _, rfl⟩ <;> omega
 have hlh : l ≤ h := by rcases hL with ⟨_, rfl⟩ | ⟨_, _, n, _, _, _, _, rfl⟩ <;> omega
 refine ⟨?_, hlh, hhl⟩
 rcases hH with ⟨rfl, hr1⟩ | ⟨y, k, n, rfl, hy, hn0, hn1, hr1⟩ <;> rcases hL with ⟨rfl, hr2⟩ | ⟨y', k', n', rfl, hy', hn0', hn1', hr2⟩ <;> subst hr1 <;> subst hr2
 ·simp [Instr.sliceBounds]
 ·simp [Instr.sliceBounds, hy', run_sliceBound hn0' hn1']
 ·simp [Instr.sliceBounds, hy, run_sliceBound (P := P) (w := w) hn0 (show n ≤ (cap : Int) by omega)]
 ·simp [Instr.sliceBounds, hy, hy', run_sliceBound (P := P) (w := w) hn0 (show n ≤ (cap : Int) by omega), run_sliceBound (P := P) (w := w) hn0' hn1']
theorem extract_data (s : ByteArray) (l h : Nat) : (s.extract l h).data.toList = (s.data.toList.take h).drop l := by
 simp [ByteArray.data_extract, List.drop_take]
theorem sliceS_sound (hE : EnvOk E N) (nm : Names vs (lmap vs ops)) (ho : ops[j]? = some o) (hf : FI N w G st a vs (lmap vs ops)) {t : TypeId} {x : Operand} {lo hi : Option Operand} {px : PX} {pl ph : Option PX} {size : Nat} (hop : o.op = .slice t x lo hi none)
  (hu : P.underlying t = some .string) (hx : cx E vs ops x = some px) (hl : cxo E vs ops lo = some pl) (hh : cxo E vs ops hi = some ph) {cf : CallF} (hs : opv cf (.slice true size px pl ph) st = some (u, st1))
  (hk : Goes N w G a st1 u vs ops j o next) : o.wp P a w next Q := by
 simp only [opv] at hs
 split at hs
 ·rename_i s hp
  simp only [Option.bind_eq_some_iff, Option.map_eq_some_iff, Prod.mk.injEq] at hs
  obtain ⟨h, h1, l, h2, rfl, rfl⟩ := hs
  have hv' := (rd_sound hE hx hf hp).1
  generalize hv : a.eval x = v at hv'
  cases hv' with
  | str s =>
    have hsz : s.data.toList.length = s.size := Array.length_toList
    rw [hsz] at h1
    obtain ⟨hb, _, _⟩ := run_sliceBounds (P := P) (isSlice := false) hE hf (Nat.le_refl s.size) hl hh h1 h2
    refine wp_value nm ho hf (v := .string (s.extract l h)) ?_ (SR.of_pure ?_ rfl) hk
    ·simp [execOp, hop, hv, Instr.sliceAt, Instr.slice, run_underlying hu, hb]
    ·rw [← extract_data]; exact .str _
 ·rename_i heq _; simp at heq
 ·rename_i heq _; simp at heq
 ·rename_i heq _; simp at heq
 ·simp at hs
theorem sliceL_sound (hE : EnvOk E N) (nm : Names vs (lmap vs ops)) (ho : ops[j]? = some o) (hf : FI N w G st a vs (lmap vs ops)) {t e : TypeId} {x : Operand} {lo hi : Option Operand} {px : PX} {pl ph : Option PX} {size : Nat} (hop : o.op = .slice t x lo hi none)
  (hu : P.underlying t = some (.slice e)) (hn : sizeT P e = some size) (hx : cx E vs ops x = some px) (hl : cxo E vs ops lo = some pl) (hh : cxo E vs ops hi = some ph) {cf : CallF} (hs : opv cf (.slice false size px pl ph) st = some (u, st1))
  (hk : Goes N w G a st1 u vs ops j o next) : o.wp P a w next Q := by
 simp only [opv] at hs
 split at hs
 ·rename_i heq _; simp at heq
 ·rename_i own es _ hp
  split at hs
  ·rename_i hhead
   simp only [Option.bind_eq_some_iff, Option.map_eq_some_iff, Prod.mk.injEq] at hs
   obtain ⟨h, h1, l, h2, rfl, rfl⟩ := hs
   have hv' := (rd_sound hE hx hf hp).1
   generalize hv : a.eval x = v at hv'
   cases hv' with
   | nils =>
     obtain ⟨hb, hlh, hhl⟩ := run_sliceBounds (P := P) (isSlice := true) hE hf (Nat.le_refl 0) hl hh h1 h2
     simp at hhl; subst hhl
     have : l = 0 := by omega
     subst this
     refine wp_value nm ho hf (v := .slice none 0 0) ?_ (SR.of_pure (.nils false) rfl) hk
     simp [execOp, hop, hv, Instr.sliceAt, Instr.slice, run_underlying hu, hb, run_sizeT hn]
   | void _ ad cap =>
     obtain ⟨hb, hlh, hhl⟩ := run_sliceBounds (P := P) (isSlice := true) hE hf (Nat.zero_le cap) hl hh h1 h2
     simp at hhl; subst hhl
     have : l = 0 := by omega
     subst this
     refine wp_value nm ho hf (v := .slice (some ad) 0 cap) ?_ (SR.of_pure (.void false ad cap) rfl) hk
     have hz : (if cap = 0 then some ad else some ad) = some ad := by split <;> rfl
     simp [execOp, hop, hv, Instr.sliceAt, Instr.slice, run_underlying hu, hb, run_sizeT hn, Addr.add_zero']
   | list _ b off len cap sz _ cv hlen hcap hsz hflat hcell hvr =>
     subst hlen
     obtain ⟨hb, hlh, hhl⟩ := run_sliceBounds (P := P) (isSlice := true) hE hf hcap hl hh h1 h2
     have hrun : (execOp a.eval o).run P w = .ok (.value (.slice (some (if cap = l then ⟨b, off, none⟩ else ⟨b, off + l * size, none⟩)) (h - l) (cap - l))) w := by
      by_cases hc : cap = l
      ·rw [if_pos hc]
       simp only [execOp, hop, hv, Instr.sliceAt, Instr.slice, Sem.run_bind, run_underlying hu, Result.andThen_ok, hb, run_sizeT hn, if_pos hc, Sem.run_pure, Option.map_none]
      ·rw [if_neg hc]
       simp only [execOp, hop, hv, Instr.sliceAt, Instr.slice, Sem.run_bind, run_underlying hu, Result.andThen_ok, hb, run_sizeT hn, if_neg hc, Sem.run_pure, Option.map_none, Option.map_some, addr_add]
     refine wp_value nm ho hf hrun (SR.of_pure ?_ rfl) hk
     have hlen' : ((es.take h).drop l).length = h - l := by simp; omega
     have hget : ∀ (i : Nat) (y : PV), ((es.take h).drop l)[i]? = some y → es[l + i]? = some y := by
      intro i y hy
      rw [List.getElem?_drop, List.getElem?_take] at hy
      split at hy
      ·exact hy
      ·cases hy
     have hmem : ∀ y ∈ (es.take h).drop l, y ∈ es := fun y hy => List.mem_of_mem_take (List.mem_of_mem_drop hy)
     by_cases hc : cap = l
     ·have he : (es.take h).drop l = [] := List.length_eq_zero_iff.1 (by rw [hlen']; omega)
      rw [if_pos hc, he]
      have : h - l = 0 := by omega
      rw [this]
      exact .list false b off 0 _ 0 [] cv rfl (Nat.zero_le _) (by simp) (by simp) (by simp) (by simp)
     ·rw [if_neg hc]
      by_cases hz : h - l = 0
      ·have he : (es.take h).drop l = [] := List.length_eq_zero_iff.1 (by rw [hlen']; omega)
       rw [he, hz]
       exact .list false b _ 0 _ 0 [] cv rfl (Nat.zero_le _) (by simp) (by simp) (by simp) (by simp)
      ·have hszn : sz = size := by
        cases es with
        | nil => simp at hhl; omega
        | cons y ys =>
          have := hsz y (by simp)
          simp [headOk] at hhead
          omega
       subst hszn
       refine .list false b _ (h - l) _ sz _ (fun k => cv (l * sz + k)) hlen' (by omega) (fun y hy => hsz y (hmem y hy)) (fun y hy => hflat y (hmem y hy)) ?_ ?_
       ·intro k hk
        have hlt : l * sz + k < es.length * sz := by
         have h3 : (l + (h - l)) * sz ≤ es.length * sz := Nat.mul_le_mul_right _ (by omega)
         rw [Nat.add_mul] at h3; omega
        have := hcell _ hlt
        simpa [Nat.add_assoc] using this
       ·intro i y hy j' z hz'
        have := hvr (l + i) y (hget i y hy) j' z hz'
        simpa [Nat.add_mul, Nat.add_assoc] using this
  ·simp at hs
 ·rename_i _ hp
  simp only [Option.bind_eq_some_iff, Option.map_eq_some_iff, Prod.mk.injEq] at hs
  obtain ⟨h, h1, l, h2, rfl, rfl⟩ := hs
  have hv' := (rd_sound hE hx hf hp).1
  generalize hv : a.eval x = v at hv'
  cases hv' with
  | nils' =>
    obtain ⟨hb, hlh, hhl⟩ := run_sliceBounds (P := P) (isSlice := true) hE hf (Nat.le_refl 0) hl hh h1 h2
    have : h = 0 := by omega
    subst this
    have : l = 0 := by omega
    subst this
    refine wp_value nm ho hf (v := .slice none 0 0) ?_ (SR.of_pure .nils' rfl) hk
    simp [execOp, hop, hv, Instr.sliceAt, Instr.slice, run_underlying hu, hb, run_sizeT hn]
 ·rename_i n sz agg len _ hp
  split at hs
  ·rename_i hsz
   subst hsz
   simp only [Option.bind_eq_some_iff, Option.map_eq_some_iff, Prod.mk.injEq] at hs
   obtain ⟨h, h1, l, h2, rfl, rfl⟩ := hs
   have hv' := (rd_sound hE hx hf hp).1
   generalize hv : a.eval x = v at hv'
   cases hv' with
   | rowp _ _ _ _ b cap hb0 hcap hsh =>
     obtain ⟨T, m, hs1, hs2⟩ := hsh
     obtain ⟨hb, hlh, hhl⟩ := run_sliceBounds (P := P) (isSlice := true) hE hf hcap hl hh h1 h2
     have hrun : (execOp a.eval o).run P w = .ok (.value (.slice (some (if cap = l then ⟨b, 0, none⟩ else ⟨b, 0 + l * sz, none⟩)) (h - l) (cap - l))) w := by
      by_cases hc : cap = l
      ·rw [if_pos hc]
       simp only [execOp, hop, hv, Instr.sliceAt, Instr.slice, Sem.run_bind, run_underlying hu, Result.andThen_ok, hb, run_sizeT hn, if_pos hc, Sem.run_pure, Option.map_none]
      ·rw [if_neg hc]
       simp only [execOp, hop, hv, Instr.sliceAt, Instr.slice, Sem.run_bind, run_underlying hu, Result.andThen_ok, hb, run_sizeT hn, if_neg hc, Sem.run_pure, Option.map_none, Option.map_some, addr_add]
     have hmul : h * sz ≤ cap * sz := Nat.mul_le_mul_right _ (by omega)
     by_cases hl0 : l = 0
     ·subst hl0
      rw [if_pos rfl] at hk
      have he : (if cap = 0 then (⟨b, 0, none⟩ : Addr) else ⟨b, 0 + 0 * sz, none⟩) = ⟨b, 0, none⟩ := by split <;> simp
      rw [he, Nat.sub_zero, Nat.sub_zero] at hrun
      exact wp_value nm ho hf hrun (SR.of_pure (.rowp _ _ _ _ b cap hb0 (by omega) ⟨T, m, hs1, hs2⟩) rfl) hk
     ·rw [if_neg hl0] at hk
      have hend : (l + (h - l)) * sz ≤ m := by rw [show l + (h - l) = h by omega]; omega
      by_cases hc : cap = l
      ·rw [if_pos hc] at hrun
       exact wp_value nm ho hf hrun (SR.of_pure (.rows _ _ _ _ _ b 0 _ m T hb0 (by omega) (.inl (by omega)) hs1 hend) rfl) hk
      ·rw [if_neg hc] at hrun
       exact wp_value nm ho hf hrun (SR.of_pure (.rows _ _ _ _ _ b _ _ m T hb0 (by omega) (.inr (by rw [Nat.zero_add])) hs1 hend) rfl) hk
  ·simp at hs
 ·simp at hs
/-! ### min, max -/
theorem minmax_sound {mx : Bool} : ∀ {ps : List PV} {vals : List Value} {p : PV} {v : Value}, VR N w G.fix G.heap v p → vals.length = ps.length →
  (∀ (i : Nat) (x : Value) (q : PV), vals[i]? = some x → ps[i]? = some q → VR N w G.fix G.heap x q) → cp p = some p → minmaxv mx p ps = some u →
  ∃ r, (vals.foldlM (if mx then Builtin.max2 else Builtin.min2) v).run P w = .ok r w ∧ VR N w G.fix G.heap r u ∧ cp u = some u
 | [], vals, p, v, hv, hl, _, hcp, hm => by
   have : vals = [] := by simpa using hl
   subst this
   simp [minmaxv] at hm; subst hm
   exact ⟨v, by simp, hv, hcp⟩
 | q :: ps, vals, p, v, hv, hl, hr, hcp, hm => by
   cases vals with
   | nil => simp at hl
   | cons x vals =>
     unfold minmaxv at hm
     split at hm
     ·simp_all
     ·rename_i k m k' m' r heq
      simp only [List.cons.injEq] at heq
      obtain ⟨rfl, rfl⟩ := heq
      split at hm
      ·subst_vars
       have hx := hr 0 x _ rfl rfl
       cases hv; cases hx
       obtain ⟨r, h1, h2, h3⟩ := minmax_sound (mx := mx) (vals := vals) (VR.int _ (if mx then (if m' > m then m' else m) else (if m' < m then m' else m))) (by simpa using hl)
        (fun i y z hy hz => hr (i + 1) y z (by simpa using hy) (by simpa using hz)) rfl hm
       refine ⟨r, ?_, h2, h3⟩
       cases mx <;> simpa [Builtin.max2, Builtin.min2] using h1
      ·simp at hm
     ·simp at hm
theorem mm_sound (hE : EnvOk E N) (nm : Names vs (lmap vs ops)) (ho : ops[j]? = some o) (hf : FI N w G st a vs (lmap vs ops)) {mx : Bool} {xs : Array Operand} {ts : Array TypeId} {pxs : List PX}
  (hop : o.op = .call { callee := .builtin (if mx then .max else .min), args := xs, argTypes := ts }) (hx : cxs E vs ops xs.toList = some pxs) {cf : CallF} (hs : opv cf (.minmax mx pxs) st = some (u, st1))
  (hk : Goes N w G a st1 u vs ops j o next) : o.wp P a w next Q := by
 simp only [opv] at hs
 split at hs
 ·rename_i p ps hp
  simp only [Option.map_eq_some_iff, Prod.mk.injEq] at hs
  obtain ⟨r, hr, rfl, rfl⟩ := hs
  obtain ⟨h1, h2⟩ := rdAll_sound hE hf hx hp
  cases hxs : xs.toList with
  | nil => simp [hxs] at h1
  | cons y ys =>
    rw [hxs] at h1 h2
    have h0 := h2 0 y p rfl rfl
    obtain ⟨v, hv1, hv2, hv3⟩ := minmax_sound (P := P) (vals := ys.map a.eval) h0.1 (by simpa using h1) (by
     intro i x q hx' hq
     simp only [List.getElem?_map, Option.map_eq_some_iff] at hx'
     obtain ⟨z, hz, rfl⟩ := hx'
     exact (h2 (i + 1) z q (by simpa using hz) (by simpa using hq)).1) h0.2 hr
    refine wp_value nm ho hf (v := v) ?_ (SR.of_pure hv2 hv3) hk
    cases mx
    ·simp only [Bool.false_eq_true, if_false] at hop hv1
     simp [execOp, hop, resolve, invoke, builtin, Builtin.min_, hxs, hv1]
    ·simp only [if_true] at hop hv1
     simp [execOp, hop, resolve, invoke, builtin, Builtin.max_, hxs, hv1]
 ·simp at hs
/-! ### Aggregates -/
theorem fill_get (off : Nat) : ∀ (vc : List Value) (n : Nat) (cs : Array Value) (k : Nat), off + n + vc.length ≤ cs.size →
  ((vc.zipIdx n).foldl (fun (cs : Array Value) (x : Value × Nat) => cs.setIfInBounds (off + x.2) x.1) cs)[k]? = if off + n ≤ k ∧ k < off + n + vc.length then vc[k - (off + n)]? else cs[k]?
 | [], n, cs, k, _ => by simp; omega
 | v :: vc, n, cs, k, hn => by
   simp only [List.length_cons] at hn
   simp only [List.zipIdx_cons, List.foldl_cons]
   rw [fill_get off vc (n + 1) _ k (by simp; omega)]
   simp only [List.length_cons]
   by_cases h1 : k = off + n
   ·subst h1
    rw [if_neg (by omega), if_pos (by omega)]
    simp [Array.getElem?_setIfInBounds]
    omega
   ·by_cases h2 : off + n ≤ k ∧ k < off + n + (vc.length + 1)
    ·rw [if_pos (by omega), if_pos h2]
     rw [show k - (off + n) = (k - (off + (n + 1))) + 1 by omega]
     simp
    ·rw [if_neg (by omega), if_neg h2]
     simp [Array.getElem?_setIfInBounds, Ne.symm h1]
theorem fill_list (off : Nat) (vc : Array Value) (cs : Array Value) (h : off + vc.size ≤ cs.size) :
  (vc.zipIdx.foldl (fun (cs : Array Value) (x : Value × Nat) => cs.setIfInBounds (off + x.2) x.1) cs).toList = cs.toList.take off ++ (vc.toList ++ cs.toList.drop (off + vc.size)) := by
 apply List.ext_getElem?
 intro k
 have hg := fill_get off vc.toList 0 cs k (by simpa using h)
 have he : vc.zipIdx.foldl (fun (cs : Array Value) (x : Value × Nat) => cs.setIfInBounds (off + x.2) x.1) cs = (vc.toList.zipIdx 0).foldl (fun (cs : Array Value) (x : Value × Nat) => cs.setIfInBounds (off + x.2) x.1) cs := by
  rw [← Array.foldl_toList]; simp
 rw [he, Array.getElem?_toList, hg]
 simp only [Nat.add_zero, Array.length_toList]
 by_cases h1 : k < off
 ·rw [if_neg (by omega), List.getElem?_append_left (by simp; omega), List.getElem?_take, if_pos h1, Array.getElem?_toList]
 ·rw [List.getElem?_append_right (by simp; omega)]
  have hmin : (cs.toList.take off).length = off := by simp; omega
  rw [hmin]
  by_cases h2 : k < off + vc.size
  ·rw [if_pos ⟨by omega, h2⟩, List.getElem?_append_left (by simp; omega)]
  ·rw [if_neg (by omega), List.getElem?_append_right (by simp; omega), List.getElem?_drop, Array.getElem?_toList]
   congr 1
   simp; omega
theorem rdParts_sound (hE : EnvOk E N) (hf : FI N w G st a vs (lmap vs ops)) {place : Nat → Option (Nat × Nat)} : ∀ {parts : List (Nat × Operand)} {ps : List (Nat × Nat × PX)} {qs : List (Nat × Nat × PV)} {zs rs : List PV} {cs : Array Value},
  cParts E vs ops place parts = some ps → rdParts st ps = some qs → setParts zs qs = some rs → CellsR N w G.fix G.heap cs.toList zs →
  OwnNil cs.toList zs → ∃ ds, Instr.fill place cs (parts.map fun (i, x) => (i, a.eval x)) = some ds ∧ CellsR N w G.fix G.heap ds.toList rs ∧ OwnNil ds.toList rs
 | [], ps, qs, zs, rs, cs, hc, hr, hset, hR, hO => by
   simp [cParts] at hc; subst hc
   simp [rdParts] at hr; subst hr
   simp [setParts] at hset; subst hset
   exact ⟨cs, rfl, hR, hO⟩
 | (i, x) :: parts, ps, qs, zs, rs, cs, hc, hr, hset, hR, hO => by
   simp only [cParts, Option.bind_eq_some_iff] at hc
   obtain ⟨p, hp, hc⟩ := hc
   split at hc
   ·simp at hc
   ·rename_i hp0
    simp only [Option.bind_eq_some_iff, Option.map_eq_some_iff] at hc
    obtain ⟨px, hpx, ps', hps, rfl⟩ := hc
    simp only [rdParts, Option.bind_eq_some_iff, Option.map_eq_some_iff] at hr
    obtain ⟨v, hv, qs', hqs, rfl⟩ := hr
    simp only [setParts] at hset
    split at hset
    ·rename_i hcond
     have hvr := (rd_sound hE hpx hf hv).1
     have hcells := CellsR.of_cells hvr (by intro e; rw [e] at hcond; simp at hcond; omega)
     have hsz : (a.eval x).cells.size = p.2 := by have := hcells.1; simp at this; omega
     have hle : p.1 + (a.eval x).cells.size ≤ cs.size := by have := hR.1; simp at this; omega
     have hnew : CellsR N w G.fix G.heap ((a.eval x).cells.zipIdx.foldl (fun (cs : Array Value) (y : Value × Nat) => cs.setIfInBounds (p.1 + y.2) y.1) cs).toList (zs.take p.1 ++ (v.cells.map dem ++ zs.drop (p.1 + p.2))) := by
      rw [fill_list _ _ _ hle, hsz]
      exact (hR.take _).append (hcells.dem.append (hR.drop _))
     have hnewO : OwnNil ((a.eval x).cells.zipIdx.foldl (fun (cs : Array Value) (y : Value × Nat) => cs.setIfInBounds (p.1 + y.2) y.1) cs).toList (zs.take p.1 ++ (v.cells.map dem ++ zs.drop (p.1 + p.2))) := by
      rw [fill_list _ _ _ hle, hsz]
      refine (hO.take _).append ?_ ((OwnNil.dem _ _).append ?_ (hO.drop _))
      ·have := hR.1; simp at this ⊢; omega
      ·have := hcells.1; simpa using this
     obtain ⟨ds, h1, h2⟩ := rdParts_sound hE hf hps hqs hset hnew hnewO
     refine ⟨ds, ?_, h2⟩
     simp only [List.map_cons, Instr.fill, hp]
     rw [if_neg (by simp [hsz]; omega)]
     exact h1
    ·simp at hset
theorem zeroT_sound {fix : Nat → Nat → Prop} {hp : Nat → Option Nat} {t : TypeId} {z : List PV} (h : zeroT P t = some z) :
  ∃ i zv, P.info? t = some i ∧ i.zero = some zv ∧ i.size ≠ 0 ∧ z.length = i.size ∧ CellsR N w fix hp zv.cells.toList z ∧ OwnNil zv.cells.toList z := by
 unfold zeroT at h
 split at h
 ·rename_i i hi
  split at h
  ·rename_i zv hz
   simp only [Option.bind_eq_some_iff] at h
   obtain ⟨cs, hcs, h⟩ := h
   split at h
   ·rename_i hcond
    simp at h; subst h
    obtain ⟨h1, h2, h3⟩ := constAll_sound (N := N) (w := w) (fix := fix) (hp := hp) hcs
    exact ⟨i, zv, hi, hz, hcond.2, hcond.1, ⟨h1, h2, h3⟩, fun k c es hc he => constAll_own hcs k c es hc he⟩
   ·simp at h
  ·simp at h
 ·simp at h
theorem build_sound (hE : EnvOk E N) (nm : Names vs (lmap vs ops)) (ho : ops[j]? = some o) (hf : FI N w G st a vs (lmap vs ops)) {t : TypeId} {parts : Array (Nat × Operand)} {fs : Array Field} {places : List (Nat × Nat)} {z : List PV} {ps : List (Nat × Nat × PX)}
  (hop : o.op = .build t parts) (hu : P.underlying t = some (.struct fs)) (hz : zeroT P t = some z) (hpl : fs.toList.mapM (fun f => (P.info? f.type).map fun i => (f.offset, i.size)) = some places)
  (hc : cParts E vs ops (places.toArray[·]?) parts.toList = some ps) {cf : CallF} (hs : opv cf (.build z ps) st = some (u, st1)) (hk : Goes N w G a st1 u vs ops j o next) : o.wp P a w next Q := by
 simp only [opv, Option.map_eq_some_iff, Option.bind_eq_some_iff, Prod.mk.injEq] at hs
 obtain ⟨rs, ⟨qs, hq, hset⟩, rfl, rfl⟩ := hs
 obtain ⟨i, zv, hi, hzv, _, _, hR, hO⟩ := zeroT_sound (N := N) (w := w) (fix := G.fix) (hp := G.heap) hz
 obtain ⟨ds, h1, h2, h3⟩ := rdParts_sound hE hf hc hq hset hR hO
 refine wp_value nm ho hf (v := .agg ds) ?_ (SR.of_pure (by simpa using h2.agg h3) rfl) hk
 have hb : P.built t (parts.map fun (i, x) => (i, a.eval x)).toList = some ds := by
  simp only [Program.built, hi, hu, hzv, hpl]
  simpa using h1
 simp [execOp, hop, run_build w t _ ds hb]
end
end PI
