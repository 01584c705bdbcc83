/-
  The pure interpreter is right: rows of the heap, iterators, bytes.
-/
import Derived.Test.YtaejhojielbbdaaGreatDoorPiSoundH2
import Derived.Laws.MakeOwn
import Derived.Laws.RangeString
set_option maxRecDepth 100000
set_option linter.unusedSimpArgs false
set_option linter.unusedVariables false
set_option linter.unusedSectionVars false
namespace PI
open Go
section
variable {E : Env} {N : Nm} {w : World} {G : GS} {st : St} {a : Act} {vs : List Tmp} {ops : List Oper} {P : Program}
variable {o : Oper} {j : Nat} {next : Act → World → Prop} {Q : Exit → Act → World → Prop} {u : PV} {st1 : St}
theorem flat_get {α : Type} (l : List α) : ∀ (n k : Nat), (List.replicate n l).flatten[k]? = if k < n * l.length then l[k % l.length]? else none
 | 0, k => by simp
 | n + 1, k => by
   have ih := flat_get l n (k - l.length)
   have e : (n + 1) * l.length = n * l.length + l.length := Nat.succ_mul _ _
   rw [List.replicate_succ, List.flatten_cons, List.getElem?_append, ih, e]
   by_cases hk : k < l.length
   ·have : k < n * l.length + l.length := by omega
    simp only [hk, this, Nat.mod_eq_of_lt hk, if_true]
   ·have hm : (k - l.length) % l.length = k % l.length := (Nat.mod_eq_sub_mod (by omega)).symm
    by_cases h2 : k - l.length < n * l.length
    ·have : k < n * l.length + l.length := by omega
     simp only [hk, h2, this, if_true, if_false, hm]
    ·have : ¬ k < n * l.length + l.length := by omega
     simp only [hk, h2, this, if_false]
theorem sameO_eval {x y : Operand} (h : sameO x y = true) {k : IntKind} {n : Int} (hx : a.eval x = .int k n) : ∃ k', a.eval y = .int k' n := by
 unfold sameO at h
 split at h
 ·simp at h; subst h; exact ⟨k, hx⟩
 ·simp at h; subst h
  simp only [Act.eval] at hx ⊢
  cases hx
  exact ⟨_, rfl⟩
 ·simp at h
theorem mkarr_sound (hE : EnvOk E N) (nm : Names vs (lmap vs ops)) (ho : ops[j]? = some o) (hf : FI N w G st a vs (lmap vs ops)) {t e : TypeId} {l c : Operand} {px : PX} {size : Nat} {z : List PV} (hop : o.op = .makeSlice t l c)
  (hu : P.underlying t = some (.slice e)) (hn : sizeT P e = some size) (hz : zeroT P e = some z) (hsame : sameO l c = true) (hx : cx E vs ops l = some px) {cf : CallF} (hs : hopv cf (.mkarr size (isAggT P e) (P.bytesOf e) z px) st = some (u, st1)) (hk : Goes N w G a st1 u vs ops j o next) : o.wp P a w next Q := by
 simp only [hopv] at hs
 split at hs
 ·rename_i n hn0
  split at hs
  ·rename_i hc
   obtain ⟨h0, hb, hm⟩ := hc
   simp only [Option.some.injEq, Prod.mk.injEq] at hs
   obtain ⟨rfl, rfl⟩ := hs
   obtain ⟨k, hl⟩ := rdInt_sound hE hx hf hn0
   obtain ⟨k', hcv⟩ := sameO_eval hsame hl
   obtain ⟨i, d, hi, hisz, hs0, hd⟩ := info_underlying hn
   obtain ⟨i2, zv, hi2, hzv, _, hzl, hzR, _⟩ := zeroT_sound (N := N) (w := w) (fix := G.fix) (hp := G.heap) hz
   have : i2 = i := by rw [hi] at hi2; simpa using hi2.symm
   subst this
   subst hisz
   have hzs : zv.cells.size = i2.size := by have := hzR.1; simp at this; omega
   have hby : P.bytesOf e = i2.bytes := by simp [Program.bytesOf, hi]
   rw [hby] at hb
   have hrun := run_make (P := P) w t e i2 zv hu hi hzv k k' n n h0 (Int.le_refl _) hb hm
   refine obj_new (mob := .cells (madeCells zv.cells (n.toNat * i2.size)) e) (v := .slice (some ⟨w.heap.size, 0, none⟩) n.toNat n.toNat) nm ho hf ?_ ?_ (fun G' hG hext => obj_cells hf ?_ ?_ hG hext) hk
   ·simp [execOp, hop, hl, hcv, hrun]
   ·rintro G' rfl
    refine .rowp _ _ _ _ w.heap.size _ (by simp [GS.more]) (Nat.le_refl _) ⟨e, n.toNat * i2.size, ?_, Nat.le_refl _⟩
    simp only [World.shape?, alloc_heap_new, size_madeCells]
   ·intro k c x hc hx
    rw [flat_get] at hx
    have hzlen : z.length = i2.size := by have := hzR.1; simp at this; omega
    rw [hzlen] at hx
    split at hx
    ·rename_i hlt
     have hmod : k % i2.size < i2.size := Nat.mod_lt _ (by omega)
     have hc' : c = zv.cells[k % i2.size]! := by
      simp only [madeCells, Array.getElem?_map, Option.map_eq_some_iff] at hc
      obtain ⟨a', ha, rfl⟩ := hc
      have : a' = k := by
       obtain ⟨h1, h2⟩ := Array.getElem?_eq_some_iff.1 ha
       simpa using h2.symm
      rw [this, hzs]
     have hcz : zv.cells[k % i2.size]? = some c := by
      rw [hc']
      have : k % i2.size < zv.cells.size := by omega
      simp [this]
     refine ⟨hzR.2.2 _ c x (by simpa using hcz) hx, hzR.2.1 x (List.mem_of_getElem? hx), ?_⟩
     rintro es rfl
     have hz' := hz
     unfold zeroT at hz'
     simp only [hi, hzv, Option.bind_eq_some_iff] at hz'
     obtain ⟨cs', hcs, hz'⟩ := hz'
     split at hz'
     ·simp at hz'; subst hz'
      exact constAll_own hcs _ c es (by simpa using hcz) hx
     ·simp at hz'
    ·simp at hx
   ·have hzlen : z.length = i2.size := by have := hzR.1; simp at this; omega
    rw [size_madeCells]
    simp [List.length_flatten, hzlen]
  ·simp at hs
 ·simp at hs
theorem newbld_sound (hE : EnvOk E N) (hP : E.P = P) (nm : Names vs (lmap vs ops)) (ho : ops[j]? = some o) (hf : FI N w G st a vs (lmap vs ops)) {t : TypeId} (hop : o.op = .alloc t) (hb : E.bT = some t) {cf : CallF}
  (hs : hopv cf .newbld st = some (u, st1)) (hk : Goes N w G a st1 u vs ops j o next) : o.wp P a w next Q := by
 simp only [hopv, Option.some.injEq, Prod.mk.injEq] at hs
 obtain ⟨rfl, rfl⟩ := hs
 obtain ⟨h1, i, h2, h3⟩ := hE.bt t hb
 rw [hP] at h2
 refine obj_new (mob := .cells #[.pointer none, .slice none 0 0] t) (v := .pointer (some ⟨w.heap.size, 0, none⟩)) nm ho hf ?_ ?_ (fun G' hG hext => ?_) hk
 ·simp [execOp, hop, Instr.alloc, zeroValue, typeInfo, h2, h3, newVar, newRow, Value.cells]
 ·rintro G' rfl
  exact .ptr _ _ w.heap.size (by simp [GS.more])
 ·subst hG
  refine ⟨?_, .pointer none, .slice none 0 0, by rw [h1]; exact alloc_heap_new, .inl rfl, .inl ⟨rfl, rfl⟩⟩
  intro o h
  have := hf.fixlt _ _ h
  omega
theorem range_sound (hE : EnvOk E N) (nm : Names vs (lmap vs ops)) (ho : ops[j]? = some o) (hf : FI N w G st a vs (lmap vs ops)) {t : TypeId} {x : Operand} {px : PX} (hop : o.op = .range t x)
  (hu : P.underlying t = some .string) (hx : cx E vs ops x = some px) {cf : CallF} (hs : hopv cf (.range px) st = some (u, st1)) (hk : Goes N w G a st1 u vs ops j o next) : o.wp P a w next Q := by
 simp only [hopv] at hs
 split at hs
 ·rename_i s hp
  simp only [Option.some.injEq, Prod.mk.injEq] at hs
  obtain ⟨rfl, rfl⟩ := hs
  have h := (rd_sound hE hx hf hp).1
  generalize hv : a.eval x = v at h
  cases h with
  | str s =>
    refine obj_new (mob := .stringIter s 0) (v := .pointer (some ⟨w.heap.size, 0, none⟩)) nm ho hf ?_ ?_ (fun G' hG hext => ?_) hk
    ·have := run_range_string (P := P) w t s hu
     simp only [execOp, hop, hv, Sem.run_bind, Sem.run_map, this, Result.andThen_ok, Sem.run_pure]
     rfl
    ·rintro G' rfl
     exact .ptr _ _ w.heap.size (by simp [GS.more])
    ·subst hG
     refine ⟨?_, s, alloc_heap_new, rfl⟩
     intro o h
     have := hf.fixlt _ _ h
     omega
 ·simp at hs
/-- An object of the heap turns, and nothing else. -/
theorem obj_turn (nm : Names vs (lmap vs ops)) (ho : ops[j]? = some o) (hf : FI N w G st a vs (lmap vs ops)) {n b : Nat} {ob ob' : PObj} {mob : Obj} {v : Value} (hob : st.heap[n]? = some ob) (hb : G.heap n = some b) (how : G.ow b = some (.hobj n))
  (hnf : ∀ o, ¬ G.fix b o) (hrun : (execOp a.eval o).run P w = .ok (.value v) { w with heap := w.heap.setIfInBounds b mob }) (hnc : w.shape? b = none ∧ loopOf w b = none)
  (hR : ObjR N { w with heap := w.heap.setIfInBounds b mob } G n b ob')
  (hv : SR N { w with heap := w.heap.setIfInBounds b mob } G (keyD (cDst vs o.dst) j) v u)
  (hk : Goes N w G a (hset st n ob') u vs ops j o next) : o.wp P a w next Q := by
 unfold Oper.wp
 rw [hrun]
 let w' : World := { w with heap := w.heap.setIfInBounds b mob }
 have hblt : b < w.heap.size := hf.owlt _ _ how
 have hother : ∀ x, x ≠ b → w'.heap[x]? = w.heap[x]? := fun x hx => by
  simp only [w', Array.getElem?_setIfInBounds]; rw [if_neg (by omega)]
 have hext : Ext w G w' G := by
  refine ⟨rfl, rfl, rfl, by simp [w'], fun x _ hxo => hother x (by rintro rfl; rw [how] at hxo; simp at hxo), ?_, fun _ _ h => .inl h, fun _ h => .inr h, fun _ _ h => h, .one b (fun k _ hk => hother k hk) (fun s hx => by rw [hnc.1] at hx; simp at hx) (fun s hx => by rw [hnc.2] at hx; simp at hx), rfl⟩
  intro x o' hfx
  have hxb : x ≠ b := by rintro rfl; exact hnf _ hfx
  refine ⟨hfx, ?_⟩
  simp only [World.cell?, hother x hxb]
 have hkeep : Keep (fun k => k = .hobj n) w G w' G := by
  refine ⟨?_, fun _ _ h => h⟩
  intro x k hx hnk
  have hxb : x ≠ b := by rintro rfl; rw [how] at hx; simp at hx; exact hnk hx.symm
  exact ⟨hx, hother x hxb, fun _ h => h⟩
 have hf1 : FI N w' G (hset st n ob') a vs (lmap vs ops) := by
  refine ⟨hf.len, fun i t' u' h1 h2 => (hf.var i t' u' h1 h2).keep hext hkeep (by simp) (by simp), fun i t' u' h1 h2 => (hf.loc i t' u' h1 h2).keep hext hkeep (by simp) (by simp), hf.tv, hf.tl, hf.defers, hf.gen, ?_, ?_, ?_, ?_⟩
  ·intro b' k hb'; simpa [w'] using hf.owlt _ _ hb'
  ·intro b' k hb'; simpa [w'] using hf.fixlt _ _ hb'
  ·exact hf.heap.keepBut hext hkeep (fun m k hne => ⟨by simp; omega, by simp⟩) (fun _ => .inr ⟨b, hb, how, hR⟩)
  ·intro m b' h; have := hf.hdom _ _ h; simpa [hset] using this
 exact hk _ w' G (hf1.put nm (cDst_ok ho) hv) hext (put_size _ _ _)
theorem next_sound (hE : EnvOk E N) (nm : Names vs (lmap vs ops)) (ho : ops[j]? = some o) (hf : FI N w G st a vs (lmap vs ops)) {x : Operand} {px : PX} (hop : o.op = .next x true)
  (hx : cx E vs ops x = some px) {cf : CallF} (hs : hopv cf (.next px) st = some (u, st1)) (hk : Goes N w G a st1 u vs ops j o next) : o.wp P a w next Q := by
 simp only [hopv] at hs
 split at hs
 ·rename_i n hp
  have h := (rd_sound hE hx hf hp).1
  split at hs
  ·rename_i s pos hob
   generalize hv : a.eval x = v at h
   cases h with
   | ptr _ _ b hb =>
     rcases hf.heap.1 n _ hob with e | ⟨b', h1, h2, h3, s', h4, h5⟩
     ·simp at e
     have : b' = b := by rw [hb] at h1; simpa using h1.symm
     subst this
     subst h5
     have hsz : s'.data.toList.length = s'.size := Array.length_toList
     have hs' : (⟨s'.data.toList.toArray⟩ : ByteArray) = s' := by cases s'; simp
     rw [hsz, hs'] at hs
     have hblt : b' < w.heap.size := hf.owlt _ _ h2
     split at hs
     ·rename_i hlt
      simp only [Option.some.injEq, Prod.mk.injEq] at hs
      obtain ⟨rfl, rfl⟩ := hs
      refine obj_turn (ob' := .siter s'.data.toList (pos + (Utf8.decode s' pos).2)) (mob := .stringIter s' (pos + (Utf8.decode s' pos).2)) (v := .tuple #[.bool true, goInt pos, .int .i32 (Utf8.decode s' pos).1]) nm ho hf hob hb h2 h3 ?_ (by simp [World.shape?, loopOf, h4]) ⟨h3, s', ?_, rfl⟩ (SR.of_pure ?_ rfl) hk
      ·simp [execOp, hop, hv, Instr.next, getObj, setObj, Sem.run, Result.andThen, h4, hlt, goInt]
      ·simp [hblt]
      ·refine .tuple _ _ rfl ?_
       intro i c p hc hp
       match i with
       | 0 => simp at hc hp; subst hc hp; exact .bool _
       | 1 => simp at hc hp; subst hc hp; exact .int _ _
       | 2 => simp at hc hp; subst hc hp; exact .int _ _
       | n + 3 => simp at hc
     ·rename_i hlt
      simp only [Option.some.injEq, Prod.mk.injEq] at hs
      obtain ⟨rfl, rfl⟩ := hs
      refine wp_value (v := .tuple #[.bool false]) nm ho hf ?_ (SR.of_pure ?_ rfl) hk
      ·simp [execOp, hop, hv, Instr.next, getObj, Sem.run, Result.andThen, h4, hlt]
      ·refine .tuple _ _ rfl ?_
       intro i c p hc hp
       match i with
       | 0 => simp at hc hp; subst hc hp; exact .bool _
       | n + 1 => simp at hc
  ·simp at hs
 ·simp at hs
theorem s2b_sound (hE : EnvOk E N) (nm : Names vs (lmap vs ops)) (ho : ops[j]? = some o) (hf : FI N w G st a vs (lmap vs ops)) {src dst e : TypeId} {x : Operand} {px : PX} (hop : o.op = .convert src dst x) (hdst : cDst vs o.dst ≠ .n)
  (hs1 : P.underlying src = some .string) (hd : P.underlying dst = some (.slice e)) (he : P.underlying e = some (.int .u8)) (hx : cx E vs ops x = some px) {cf : CallF} (hs : opv cf (.s2b px) st = some (u, st1)) (hk : Goes N w G a st1 u vs ops j o next) : o.wp P a w next Q := by
 simp only [opv] at hs
 split at hs
 ·rename_i s hp
  split at hs
  ·rename_i hlen
   simp only [Option.some.injEq, Prod.mk.injEq] at hs
   obtain ⟨rfl, rfl⟩ := hs
   have h := (rd_sound hE hx hf hp).1
   generalize hv : a.eval x = v at h
   cases h with
   | str s =>
     have hsz : s.data.toList.length = s.size := Array.length_toList
     have hrun := Lib.run_convert_string_bytes (P := P) w src dst e s hs1 hd he
     unfold Oper.wp
     have hrun' : (execOp a.eval o).run P w = .ok (.value (.slice (some ⟨w.heap.size, 0, none⟩) s.size (grownCap w s.size 0 e))) (Lib.bytesWorld w e s) := by
      simp [execOp, hop, hv, hrun]
     rw [hrun']
     have hnc : s.size ≤ grownCap w s.size 0 e := grownCap_ge w s.size 0 e
     let G' : GS := { G with fix := fun b o => G.fix b o ∨ (b = w.heap.size ∧ o < s.size), ow := fun b => if b = w.heap.size then some (keyD (cDst vs o.dst) j) else G.ow b }
     have hsize := Lib.bytesWorld_size w e s
     have hext : Ext w G (Lib.bytesWorld w e s) G' := by
      refine ⟨?_, ?_, ?_, by omega, fun b hb _ => Lib.bytesWorld_at_old w e s b hb, fun b o h => ⟨.inl h, Lib.bytesWorld_old w e s ⟨b, o, none⟩ (hf.fixlt _ _ h)⟩, ?_, ?_, fun _ _ h => h, .same fun k hk => Lib.bytesWorld_at_old w e s k hk, rfl⟩
      ·simp [Lib.bytesWorld, World.freeze, World.alloc, World.drew, -World.alloc_eq, -World.drew_eq]
      ·simp [Lib.bytesWorld, World.freeze, World.alloc, World.drew, -World.alloc_eq, -World.drew_eq]
      ·simp [Lib.bytesWorld, World.freeze, World.alloc, World.drew, -World.alloc_eq, -World.drew_eq]
      ·rintro b o (h | h)
       ·exact .inl h
       ·exact .inr (.inl (by omega))
      ·intro b hb
       simp only [G'] at hb
       split at hb
       ·exact .inl (by omega)
       ·exact .inr hb
     have hkeep : Keep (fun k => k = keyD (cDst vs o.dst) j) w G (Lib.bytesWorld w e s) G' := by
      refine ⟨?_, fun _ _ h => h⟩
      intro b k hb _
      have hlt := hf.owlt _ _ hb
      refine ⟨?_, Lib.bytesWorld_at_old w e s b hlt, ?_⟩
      ·simp only [G']; rw [if_neg (by omega)]; exact hb
      ·rintro o (h | h)
       ·exact h
       ·omega
     have hR := ofBytes_R (N := N) (w := Lib.bytesWorld w e s) G'.fix G'.heap s
     have hl : (ofBytes s.data.toList).length = s.size := by rw [ofBytes_len]; exact hsz
     have how' : ∀ b k, G'.ow b = some k → b < (Lib.bytesWorld w e s).heap.size := by
      intro b k hb
      simp only [G'] at hb
      split at hb
      ·omega
      ·have := hf.owlt _ _ hb; omega
     have hfx' : ∀ b o, G'.fix b o → b < (Lib.bytesWorld w e s).heap.size := by
      rintro b o (h | h)
      ·have := hf.fixlt _ _ h; omega
      ·omega
     have hvr : ∀ own, VR N (Lib.bytesWorld w e s) G'.fix G'.heap (.slice (some ⟨w.heap.size, 0, none⟩) s.size (grownCap w s.size 0 e)) (.list own (ofBytes s.data.toList)) := by
      intro own
      have hm := list_mk (own := own) (b := w.heap.size) (off := 0) (cap := grownCap w s.size 0 e) hR (by rw [hl]; exact hnc) ?_
      ·rw [hl] at hm; exact hm
      ·intro k u' hu
       have hk : k < s.size := by have := (List.getElem?_eq_some_iff.1 hu).1; rw [byteCells_length] at this; exact this
       rw [Nat.zero_add]
       refine ⟨?_, .inr ⟨rfl, hk⟩⟩
       rw [Lib.bytesWorld_cell w e s k hk]
       simp only [byteCells, List.getElem?_map, Option.map_eq_some_iff] at hu
       obtain ⟨b, hb, rfl⟩ := hu
       simp [List.getD, hb]
     refine hk _ _ G' (hf.extDst nm (cDst_ok ho) hdst hext hkeep (fun g b h => hf.gen g b h) how' hfx' rfl ?_) hext (put_size _ _ _)
     cases he0 : s.data.toList.isEmpty with
     | true => exact SR.of_pure (hvr false) rfl
     | false =>
       refine ⟨hvr true, ?_⟩
       have h0 : 0 < s.size := by
        rw [← hsz]
        cases hx : s.data.toList with
        | nil => rw [hx] at he0; simp at he0
        | cons => simp
       refine .inr ⟨by simp [G'], 1, Lib.bytesCells w e s, e, hR.sz, ⟨_, Lib.bytesWorld_at_new w e s, fun o ho h => by simp at h; omega⟩, ?_, h0, ?_⟩
       ·have : s.data.size = s.size := rfl
        simp only [Lib.bytesCells, Array.size_append, Array.size_map, Array.size_replicate]
        omega
       ·rintro o' ho' (h | h)
        ·have := hf.fixlt _ _ h; simp at this
        ·simp at ho'; omega
  ·simp at hs
 ·simp at hs
/-! ### Appends to rows of the heap -/
theorem flat_cells {size : Nat} : ∀ {xs : List PV}, (∀ e ∈ xs, e.cells.length = size) → (xs.flatMap PV.cells).length = xs.length * size ∧ ∀ (i : Nat) (e : PV), xs[i]? = some e → ∀ k, k < size → (xs.flatMap PV.cells)[i * size + k]? = e.cells[k]?
 | [], _ => by simp
 | x :: xs, h => by
   obtain ⟨h1, h2⟩ := flat_cells (xs := xs) (fun e he => h e (List.mem_cons_of_mem _ he))
   have hx := h x (List.mem_cons_self ..)
   refine ⟨by simp only [List.flatMap_cons, List.length_append, h1, hx, List.length_cons, Nat.add_mul, Nat.one_mul]; omega, ?_⟩
   intro i e he k hk
   rw [List.flatMap_cons]
   cases i with
   | zero =>
     simp at he; subst he
     rw [Nat.zero_mul, Nat.zero_add, List.getElem?_append_left (by omega)]
   | succ i =>
     rw [Nat.add_mul, Nat.one_mul, List.getElem?_append_right (by omega), hx]
     have := h2 i e (by simpa using he) k hk
     rw [show i * size + size + k - size = i * size + k by omega]
     exact this
/-- A new row that is its place's alone. -/
theorem mkfresh_sound (hE : EnvOk E N) (nm : Names vs (lmap vs ops)) (ho : ops[j]? = some o) (hf : FI N w G st a vs (lmap vs ops)) {t e : TypeId} {l c : Operand} {px : PX} {size : Nat} {z : List PV} (hop : o.op = .makeSlice t l c)
  (hu : P.underlying t = some (.slice e)) (hn : sizeT P e = some size) (hz : zeroT P e = some z) (hsame : sameO l c = true) (hx : cx E vs ops l = some px) {cf : CallF} (hs : hopv cf (.mkfresh size (isAggT P e) (P.bytesOf e) z px) st = some (u, st1)) (hk : Goes N w G a st1 u vs ops j o next) : o.wp P a w next Q := by
 simp only [hopv] at hs
 split at hs
 ·rename_i n hn0
  split at hs
  ·rename_i hc
   obtain ⟨h0, hb, hm⟩ := hc
   simp only [Option.some.injEq, Prod.mk.injEq] at hs
   obtain ⟨rfl, rfl⟩ := hs
   obtain ⟨k, hl⟩ := rdInt_sound hE hx hf hn0
   obtain ⟨k', hcv⟩ := sameO_eval hsame hl
   obtain ⟨i, d, hi, hisz, hs0, hd⟩ := info_underlying hn
   obtain ⟨i2, zv, hi2, hzv, _, hzl, hzR, _⟩ := zeroT_sound (N := N) (w := w) (fix := G.fix) (hp := G.heap) hz
   have : i2 = i := by rw [hi] at hi2; simpa using hi2.symm
   subst this
   subst hisz
   have hzs : zv.cells.size = i2.size := by have := hzR.1; simp at this; omega
   have hby : P.bytesOf e = i2.bytes := by simp [Program.bytesOf, hi]
   rw [hby] at hb
   have hrun := run_make (P := P) w t e i2 zv hu hi hzv k k' n n h0 (Int.le_refl _) hb hm
   let key : Key := keyD (cDst vs o.dst) j
   let mob : Obj := .cells (madeCells zv.cells (n.toNat * i2.size)) e
   let G' : GS := { G with ow := fun x => if x = w.heap.size then some key else G.ow x }
   have hext : Ext w G (w.alloc mob) G' := by
    refine ⟨rfl, rfl, rfl, by simp, fun b hb _ => alloc_heap_old hb, fun b o h => ⟨h, alloc_cell_old (hf.fixlt _ _ h)⟩, fun _ _ h => .inl h, ?_, fun _ _ h => h, .same fun k hk => alloc_heap_old hk, rfl⟩
    intro b hb
    by_cases hlt : b < w.heap.size
    ·refine .inr ?_
     simp only [G'] at hb
     rw [if_neg (by omega)] at hb
     exact hb
    ·exact .inl (by omega)
   have hkeep : Keep (fun _ => False) w G (w.alloc mob) G' := by
    refine ⟨?_, fun _ _ h => h⟩
    intro b k hb _
    have hlt := hf.owlt _ _ hb
    refine ⟨?_, alloc_heap_old hlt, fun _ h => h⟩
    simp only [G']
    rw [if_neg (by omega)]; exact hb
   have hf1 : FI N (w.alloc mob) G' st a vs (lmap vs ops) := hf.ext hext hkeep hf.gen (by
    intro b k hb
    simp only [G'] at hb
    split at hb
    ·show _ < (w.alloc mob).heap.size
     simp; omega
    ·have := hf.owlt _ _ hb
     show _ < (w.alloc mob).heap.size
     simp; omega) (by intro b o h; have := hf.fixlt _ _ h; show _ < (w.alloc mob).heap.size; simp; omega)
   unfold Oper.wp
   have hr : (execOp a.eval o).run P w = .ok (.value (.slice (some ⟨w.heap.size, 0, none⟩) n.toNat n.toNat)) (w.alloc mob) := by simp [execOp, hop, hl, hcv, hrun, mob]
   rw [hr]
   refine hk _ _ G' (hf1.put nm (cDst_ok ho) ?_) hext (put_size _ _ _)
   have hzlen : z.length = i2.size := by have := hzR.1; simp at this; omega
   refine ⟨w.heap.size, rfl, by simp [G', key], fun o h => by have := hf.fixlt _ _ h; omega, _, e, alloc_heap_new, ?_, by rw [size_madeCells]; exact Nat.le_refl _, ?_⟩
   ·rw [size_madeCells]; simp [hzlen]
   ·intro k c x hc hx
    rw [flat_get] at hx
    rw [List.length_map, hzlen] at hx
    split at hx
    ·rename_i hlt
     have hmod : k % i2.size < i2.size := Nat.mod_lt _ (by omega)
     rw [List.getElem?_map, Option.map_eq_some_iff] at hx
     obtain ⟨y, hy, rfl⟩ := hx
     have hc' : c = zv.cells[k % i2.size]! := by
      simp only [madeCells, Array.getElem?_map, Option.map_eq_some_iff] at hc
      obtain ⟨a', ha, rfl⟩ := hc
      have : a' = k := by
       obtain ⟨h1, h2⟩ := Array.getElem?_eq_some_iff.1 ha
       simpa using h2.symm
      rw [this, hzs]
     have hcz : zv.cells[k % i2.size]? = some c := by
      rw [hc']
      have : k % i2.size < zv.cells.size := by omega
      simp [this]
     have hfl := hzR.2.1 y (List.mem_of_getElem? hy)
     refine ⟨((hzR.2.2 _ c y (by simpa using hcz) hy).dem).ext hext, by cases y <;> simp_all [dem, PV.flat], ?_⟩
     rintro es he
     cases y <;> simp [dem] at he
    ·simp at hx
  ·simp at hs
 ·simp at hs
/-- A row becomes an object: only the ghosts turn. -/
theorem FI.adopt {j' : Nat} {t' : Tmp} {sz len : Nat} {agg : Bool} {cs : List PV} (hf : FI N w G st a vs (lmap vs ops)) (nm : Names vs (lmap vs ops)) (hj : lmap vs ops j' = some t') (hs : st.locs[j']? = some (.fresh sz agg len cs)) :
  ∃ G', FI N w G' { st with locs := st.locs.set j' (.rowp st.heap.length sz agg len), heap := st.heap ++ [.cells cs] } a vs (lmap vs ops) ∧ Ext w G w G' := by
 obtain ⟨b, hv, hob, hnf, cv, T, hh, hl, hlen, hcv⟩ := hf.loc j' t' _ hj hs
 have hblt := hf.owlt _ _ hob
 let G' : GS := G.more b st.heap.length
 have hext : Ext w G w G' := by
  refine ⟨rfl, rfl, rfl, Nat.le_refl _, fun _ _ _ => rfl, fun b o h => ⟨h, rfl⟩, fun _ _ h => .inl h, ?_, ?_, .same fun k hk => rfl, rfl⟩
  ·intro x hx
   refine .inr ?_
   simp only [G', GS.more] at hx
   by_cases hxb : x = b
   ·subst hxb; rw [hob]; simp
   ·rw [if_neg hxb] at hx; exact hx
  ·intro n x h
   have := hf.hdom _ _ h
   simp only [G', GS.more]
   rw [if_neg (by omega)]; exact h
 have hkeep : Keep (fun k => k = .loc j') w G w G' := by
  refine ⟨?_, fun _ _ h => h⟩
  intro x k hx hne
  refine ⟨?_, rfl, fun _ h => h⟩
  simp only [G', GS.more]
  rw [if_neg]
  ·exact hx
  ·rintro rfl
   rw [hob] at hx
   cases hx
   exact hne rfl
 refine ⟨G', ⟨hf.len, fun i t u h1 h2 => (hf.var i t u h1 h2).keep hext hkeep (by simp) (by simp), ?_, hf.tv, hf.tl, hf.defers, hf.gen, ?_, hf.fixlt, ?_, ?_⟩, hext⟩
 ·intro i t u h1 h2
  rw [List.getElem?_set] at h2
  split at h2
  ·rename_i hi
   subst hi
   split at h2
   ·simp only [Option.some.injEq] at h2
    subst h2
    have : t = t' := by rw [hj] at h1; simpa using h1.symm
    subst this
    rw [hv]
    refine SR.of_pure (.rowp _ _ _ _ b _ (by simp [G', GS.more]) (Nat.le_refl _) ⟨T, cv.size, ?_, hlen⟩) rfl
    simp [World.shape?, hh]
   ·simp at h2
  ·rename_i hi
   exact (hf.loc i t u h1 h2).keep hext hkeep (by simp; omega) (by simp)
 ·intro x k hx
  simp only [G', GS.more] at hx
  split at hx
  ·subst_vars; exact hblt
  ·exact hf.owlt _ _ hx
 ·refine hf.heap.push hext hkeep (fun _ _ _ => .inr ⟨by simp, by simp⟩) (.inr ⟨b, by simp [G', GS.more], by simp [G', GS.more], hnf, cv, T, hh, hl, ?_⟩)
  intro k c x hc hx
  obtain ⟨k1, k2, k3⟩ := hcv k c x hc hx
  refine ⟨k1.ext hext, k2, ?_⟩
  split
  ·exact absurd rfl (k3 _)
  ·trivial
 ·intro n x h
  simp only [G', GS.more] at h
  simp only [List.length_append, List.length_singleton]
  split at h
  ·omega
  ·have := hf.hdom _ _ h; omega
theorem FI.adoptAll (nm : Names vs (lmap vs ops)) : ∀ {js : List Nat} {G : GS} {st st' : St}, FI N w G st a vs (lmap vs ops) → (∀ j ∈ js, ∃ t, lmap vs ops j = some t) → PI.adoptAll js st = some st' → ∃ G', FI N w G' st' a vs (lmap vs ops) ∧ Ext w G w G'
 | [], G, st, st', hf, _, h => by
   simp only [PI.adoptAll, Option.some.injEq] at h; subst h
   exact ⟨G, hf, Ext.refl _ _⟩
 | j :: js, G, st, st', hf, hl, h => by
   simp only [PI.adoptAll] at h
   split at h
   ·rename_i sz agg len cs hs
    obtain ⟨t, ht⟩ := hl j (by simp)
    obtain ⟨G1, hf1, e1⟩ := hf.adopt nm ht hs
    obtain ⟨G2, hf2, e2⟩ := FI.adoptAll nm hf1 (fun j' hj' => hl j' (by simp [hj'])) h
    exact ⟨G2, hf2, e1.trans e2⟩
   ·simp at h
theorem cx_loc {t : Tmp} {j : Nat} (h : cx E vs ops (.tmp t) = some (.l j)) : ∃ t, lmap vs ops j = some t := by
 simp only [cx] at h
 split at h
 ·simp at h
 ·rename_i hi
  cases hd : dstIn t ops 0 with
  | none => rw [hd] at h; simp at h
  | some k =>
    rw [hd] at h
    simp only [Option.map_some, Option.some.injEq, PX.l.injEq] at h
    subst h
    obtain ⟨_, o', h2, h3⟩ := dstIn_some hd
    simp only [Nat.sub_zero] at h2
    exact ⟨t, by simp [lmap, h2, h3, hi]⟩
theorem buildA_sound (hE : EnvOk E N) (nm : Names vs (lmap vs ops)) (ho : ops[j]? = some o) (hf : FI N w G st a vs (lmap vs ops)) {t : TypeId} {parts : Array (Nat × Operand)} {fs : Array Field} {places : List (Nat × Nat)} {z : List PV} {ps : List (Nat × Nat × PX)} {js : List Nat}
  (hop : o.op = .build t parts) (hu : P.underlying t = some (.struct fs)) (hz : zeroT P t = some z) (hpl : fs.toList.mapM (fun f => (P.info? f.type).map fun i => (f.offset, i.size)) = some places) (hj : ∀ j ∈ js, ∃ t, lmap vs ops j = some t)
  (hc : cParts E vs ops (places.toArray[·]?) parts.toList = some ps) {cf : CallF} (hs : hopv cf (.buildA js z ps) st = some (u, st1)) (hk : Goes N w G a st1 u vs ops j o next) : o.wp P a w next Q := by
 simp only [hopv, Option.bind_eq_some_iff] at hs
 obtain ⟨st0, ha, hb⟩ := hs
 obtain ⟨G', hf', hext⟩ := FI.adoptAll nm hf hj ha
 refine build_sound (cf := cf) hE nm ho hf' hop hu hz hpl hc ?_ (u := u) (st1 := st1) ?_
 ·simp only [opv]
  exact hb
 ·intro a' w' G2 h1 h2 h3
  exact hk a' w' G2 h1 (hext.trans h2) h3
theorem loadn_sound (hE : EnvOk E N) (nm : Names vs (lmap vs ops)) (ho : ops[j]? = some o) (hf : FI N w G st a vs (lmap vs ops)) {t : TypeId} {n : Nat} {x : Operand} {px : PX} (hop : o.op = .load t x) (hn : sizeT P t = some n) (hag : isAggT P t = false)
  (hx : cx E vs ops x = some px) {cf : CallF} (hs : hopv cf (.loadn px) st = some (u, st1)) (hk : Goes N w G a st1 u vs ops j o next) : o.wp P a w next Q := by
 have hs0 := hs
 simp only [hopv] at hs
 split at hs
 ·rename_i m off ha
  simp only [Option.bind_eq_some_iff] at hs
  obtain ⟨cs, hg, hs⟩ := hs
  split at hs
  ·rename_i es hcell
   refine hload_sound (tk := true) (cf := cf) hE nm ho hf hop hn hx ?_ hk
   simp only [hopv, ha, hg, Option.bind_some, hag, Bool.not_false, Bool.and_true, hcell]
   exact hs
  ·rename_i hcell
   simp only [Option.some.injEq, Prod.mk.injEq] at hs
   obtain ⟨rfl, rfl⟩ := hs
   obtain ⟨b, hv, hb⟩ := addr_ptr hE hx hf ha
   obtain ⟨ho1, ho2, cv, T, hh, hl, hc⟩ := obj_open hf hg hb
   have hlt : off < cv.size := by have := (List.getElem?_eq_some_iff.1 hcell).1; omega
   have hvr := (hc off cv[off] _ (by simp [hlt]) hcell).1
   have hnil : cv[off] = .slice none 0 0 := by
    generalize cv[off] = c at hvr
    cases hvr; rfl
   have hrun : (execOp a.eval o).run P w = .ok (.value (.slice none 0 0)) w := by
    have hcl : w.cell? ⟨b, off, none⟩ = some (.slice none 0 0) := by simp [World.cell?, hh, hlt, hnil]
    simp [execOp, hop, hv, Instr.loadAt, Instr.sureAddr, loadVar, run_isAggT hn, hag, hcl]
   have hsr : SR N w G (keyD (cDst vs o.dst) j) (.slice none 0 0) (.list true []) := ⟨.nils true, by simp [Room]⟩
   exact wp_value nm ho hf hrun hsr hk
  ·simp at hs
 ·simp at hs
theorem mkrow_sound (hE : EnvOk E N) (nm : Names vs (lmap vs ops)) (ho : ops[j]? = some o) (hf : FI N w G st a vs (lmap vs ops)) {t e : TypeId} {len size : Nat} {parts : Array (Nat × Operand)} {z : List PV} {ps : List (Nat × PX)}
  (hop : o.op = .buildSlice t len parts) (hu : P.underlying t = some (.slice e)) (hn : sizeT P e = some size) (hz : zeroT P e = some z) (hlen : len * size ≤ 16777216) (hc : cElems E vs ops parts.toList = some ps) {cf : CallF}
  (hs : hopv cf (.mkrow size (isAggT P e) (if isAggT P e then .agg z else z.headD .dead) len ps) st = some (u, st1)) (hk : Goes N w G a st1 u vs ops j o next) : o.wp P a w next Q := by
 simp only [hopv, Option.map_eq_some_iff, Option.bind_eq_some_iff, Prod.mk.injEq] at hs
 obtain ⟨rs, ⟨qs, hq, hset⟩, rfl, rfl⟩ := hs
 obtain ⟨ds, hR, hrun⟩ := built_run hE hf hop hu hn hz hlen hc hq hset
 obtain ⟨f1, f2⟩ := flat_cells (size := size) (xs := rs) (fun x hx => by
  obtain ⟨i, hi⟩ := List.mem_iff_getElem?.1 hx
  exact (hR.2 i x hi).1)
 obtain ⟨_, _, _, _, hs0, _⟩ := info_underlying hn
 refine obj_new (mob := .cells ds e) (v := .slice (some ⟨w.heap.size, 0, none⟩) rs.length rs.length) nm ho hf hrun ?_ (fun G' hG hext => obj_cells hf ?_ ?_ hG hext) hk
 ·rintro G' rfl
  refine .rowp _ _ _ _ w.heap.size _ (by simp [GS.more]) (Nat.le_refl _) ⟨e, rs.length * size, ?_, Nat.le_refl _⟩
  simp only [World.shape?, alloc_heap_new, hR.1]
 ·intro k c x hcx hx
  rw [List.getElem?_map, Option.map_eq_some_iff] at hx
  obtain ⟨y, hy, rfl⟩ := hx
  have hkl : k < rs.length * size := by rw [← f1]; exact (List.getElem?_eq_some_iff.1 hy).1
  have hi : k / size < rs.length := Nat.div_lt_of_lt_mul (by rw [Nat.mul_comm]; exact hkl)
  have hke : k / size * size + k % size = k := by rw [Nat.mul_comm]; exact Nat.div_add_mod k size
  have hm : k % size < size := Nat.mod_lt _ (by omega)
  obtain ⟨r1, r2, r3⟩ := hR.2 (k / size) _ (List.getElem?_eq_getElem hi)
  have hy' := f2 (k / size) _ (List.getElem?_eq_getElem hi) (k % size) hm
  rw [hke, hy] at hy'
  have hv := r3 (k % size) c y (by rw [hke]; exact hcx) hy'.symm
  have hfl := r2 y (List.mem_of_getElem? hy'.symm)
  refine ⟨hv.dem, by cases y <;> simp_all [dem, PV.flat], ?_⟩
  rintro es he
  cases y <;> simp [dem] at he
 ·rw [List.length_map, f1, hR.1]
/-- The cells of a row's elements, one behind the other. -/
theorem ListR.flats {fix : Nat → Nat → Prop} {hp : Nat → Option Nat} {size : Nat} {news : List Value} {xs : List PV} (h : ListR N w fix hp size news xs) (hs : size ≠ 0) :
  news.length = ((xs.flatMap PV.cells).map dem).length ∧ ∀ (k : Nat) (c : Value) (x : PV), news[k]? = some c → ((xs.flatMap PV.cells).map dem)[k]? = some x → VR N w fix hp c x ∧ x.flat = true ∧ ∀ es, x ≠ .list true es := by
 obtain ⟨h1, h2⟩ := flat_cells h.sz
 refine ⟨by rw [List.length_map, h1, h.len], ?_⟩
 intro k c x hc hx
 simp only [List.getElem?_map, Option.map_eq_some_iff] at hx
 obtain ⟨y, hy, rfl⟩ := hx
 have hk : k < xs.length * size := by rw [← h1]; exact (List.getElem?_eq_some_iff.1 hy).1
 have hi : k / size < xs.length := by rw [Nat.div_lt_iff_lt_mul (by omega)]; exact hk
 have hm : k % size < size := Nat.mod_lt _ (by omega)
 have he : k / size * size + k % size = k := by rw [Nat.mul_comm]; exact Nat.div_add_mod k size
 have h3 := h2 (k / size) xs[k / size] (List.getElem?_eq_getElem hi) (k % size) hm
 rw [he, hy] at h3
 refine ⟨(h.vr (k / size) _ (List.getElem?_eq_getElem hi) (k % size) c y (by rw [he]; exact hc) h3.symm).dem, ?_, ?_⟩
 ·rw [flat_dem]
  exact h.flat _ (List.getElem_mem hi) y (List.mem_of_getElem? h3.symm)
 ·intro es e; cases y <;> simp [dem] at e
theorem dem_notOwn (y : PV) (es : List PV) : dem y ≠ .list true es := by intro e; cases y <;> simp [dem] at e
theorem rowEls_get {sz : Nat} {agg : Bool} {cs : List PV} : ∀ {n off : Nat} {es : List PV}, rowEls sz agg cs n off = some es → es.length = n ∧ ∀ (i : Nat) (e : PV), es[i]? = some e → loadFrom sz agg cs (off + i * sz) = some e
 | 0, off, es, h => by simp [rowEls] at h; subst h; simp
 | n + 1, off, es, h => by
   simp only [rowEls, Option.bind_eq_some_iff, Option.map_eq_some_iff] at h
   obtain ⟨e, h1, es', h2, rfl⟩ := h
   obtain ⟨k1, k2⟩ := rowEls_get h2
   refine ⟨by simp [k1], ?_⟩
   intro i x hx
   cases i with
   | zero => simp at hx; subst hx; simpa using h1
   | succ i =>
     have := k2 i x (by simpa using hx)
     rw [Nat.add_mul]
     simpa [Nat.add_assoc, Nat.add_comm, Nat.add_left_comm] using this
/-- The elements of a row of the heap, cell by cell. -/
theorem rowEls_cells {sz len : Nat} {agg : Bool} {cs es : List PV} (hfl : ∀ (k : Nat) (y : PV), cs[k]? = some y → y.flat = true) (hsz : agg = true ∨ sz = 1) (he : rowEls sz agg cs len 0 = some es) :
  es.length = len ∧ ∀ (i : Nat) (e : PV), es[i]? = some e → i * sz + sz ≤ cs.length ∧ e.cells.length = sz ∧ ∀ (j : Nat) (x : PV), e.cells[j]? = some x → ∃ y, cs[i * sz + j]? = some y ∧ x = dem y ∧ j < sz := by
 obtain ⟨e1, e2⟩ := rowEls_get he
 refine ⟨e1, ?_⟩
 intro i e hi
 have := e2 i e hi
 rw [Nat.zero_add] at this
 unfold loadFrom at this
 split at this
 ·split at this
  ·rename_i hle
   simp only [Option.some.injEq] at this; subst this
   refine ⟨hle, by simp [PV.cells]; omega, ?_⟩
   intro j x hx
   simp only [PV.cells, List.getElem?_map, Option.map_eq_some_iff] at hx
   obtain ⟨y, hy, rfl⟩ := hx
   rw [List.getElem?_take] at hy
   split at hy
   ·rw [List.getElem?_drop] at hy
    exact ⟨y, hy, rfl, by assumption⟩
   ·simp at hy
  ·simp at this
 ·rename_i hagg
  have h1 : sz = 1 := by rcases hsz with h | h; exact absurd h (by simpa using hagg); exact h
  subst h1
  split at this
  ·rename_i y hy
   have hlt : i * 1 < cs.length := (List.getElem?_eq_some_iff.1 hy).1
   have hfl := hfl _ y hy
   have hcp : e = dem y ∧ y.cells = [y] := by
    cases y <;> simp_all [cp, dem, PV.cells, PV.flat]
   obtain ⟨rfl, _⟩ := hcp
   have hdc : (dem y).cells = [dem y] := by cases y <;> simp_all [dem, PV.cells, PV.flat]
   refine ⟨by omega, by rw [hdc]; rfl, ?_⟩
   intro j x hx
   rw [hdc] at hx
   cases j with
   | zero => simp at hx; subst hx; exact ⟨y, hy, rfl, by omega⟩
   | succ j => simp at hx
  ·simp at this
/-- An append of nothing to nothing. -/
theorem none_app {ts tx e ty : TypeId} {size : Nat} {s x : Operand} {base : Option Addr} (hv : a.eval s = .slice base 0 0) (hsrc : Src P size tx (a.eval x) 0 [] w) (hts : P.underlying ts = some (.slice e)) {i : TypeInfo} (hi : P.info? e = some i) (hsz : i.size = size) :
  (Builtin.append_ #[ts, tx] ty #[a.eval s, a.eval x]).run P w = .ok (.slice base 0 0) w := by
 subst hsz
 rw [hv]
 rcases hsrc.kind with ⟨e'', hk'⟩ | hk' <;> cases base <;>
  simp [Builtin.append_, run_underlying hts, run_underlying hk', Go.sizeOf, typeInfo, hi, hsrc.len, hsrc.cells, storeCells]
/-- The room of an object's cells goes to another object. -/
def renK (n n' : Nat) : Option Key → Option Key
 | some (.hcell m k) => some (.hcell (if m = n then n' else m) k)
 | o => o
theorem renK_none {n n' : Nat} {o : Option Key} : renK n n' o = none ↔ o = none := by
 unfold renK; split <;> simp
theorem renK_keep {n n' : Nat} {key : Key} (h : ∀ k, key ≠ .hcell n k) : renK n n' (some key) = some key := by
 unfold renK
 split
 ·rename_i m k e
  simp only [Option.some.injEq] at e
  subst e
  rw [if_neg (fun e => h k (by rw [e]))]
 ·rfl
theorem renK_cell (n n' k : Nat) : renK n n' (some (.hcell n k)) = some (.hcell n' k) := by simp [renK]
/-- Room that has gone to another object. -/
theorem Room.ren {w w' : World} {G G' : GS} {n n' k : Nat} {v : Value} {es : List PV} (h : Room w G (.hcell n k) v es) (ho : ∀ b, G.ow b = some (.hcell n k) → G'.ow b = some (.hcell n' k) ∧ w'.heap[b]? = w.heap[b]? ∧ ∀ o, G'.fix b o → G.fix b o) : Room w' G' (.hcell n' k) v es := by
 unfold Room at *
 split at h
 ·rename_i a len cap
  rcases h with h | ⟨h0, sz, cs, T, h1, h2, h3, h4, h5⟩
  ·exact .inl h
  ·obtain ⟨k1, k2, k3⟩ := ho _ h0
   exact .inr ⟨k1, sz, cs, T, h1, h2.same k2, h3, h4, fun o hoff hf => h5 o hoff (k3 o hf)⟩
 ·trivial
theorem CR.pure {N : Nm} {w : World} {G : GS} {key : Key} {v : Value} {p : PV} (h : VR N w G.fix G.heap v p ∧ p.flat = true ∧ ∀ es, p ≠ .list true es) : CR N w G key v p := by
 refine ⟨h.1, h.2.1, ?_⟩
 split
 ·exact absurd rfl (h.2.2 _)
 ·trivial
/-- A new block for a row that has outgrown its own. -/
theorem happ_new (nm : Names vs (lmap vs ops)) (ho : ops[j]? = some o) (hf : FI N w G st a vs (lmap vs ops)) {heap1 : List PObj} (hh1 : HR N w G heap1) (hlen1 : heap1.length = st.heap.length) {v : Value} {CS : Array Value} {e : TypeId} {ps : List PV} {sz len cap : Nat} {agg : Bool} (n0 : Nat) (hn0 : n0 < heap1.length → heap1[n0]? = some .gone)
  (hrun : (execOp a.eval o).run P w = .ok (.value (.slice (some ⟨w.heap.size, 0, none⟩) len cap)) (w.drew.alloc (.cells CS e))) (hcap : len ≤ cap) (hCS : CS.size = cap * sz) (hps : ps.length ≤ CS.size)
  (hR : ∀ (k : Nat) (c : Value) (x : PV), CS[k]? = some c → ps[k]? = some x → CR N w G (.hcell n0 k) c x)
  (hk : Goes N w G a { st with heap := heap1 ++ [.cells ps] } (.rowp st.heap.length sz agg len) vs ops j o next) : o.wp P a w next Q := by
 unfold Oper.wp
 rw [hrun]
 let w' : World := w.drew.alloc (.cells CS e)
 let G' : GS := { G with ow := fun x => if x = w.heap.size then some (.hobj st.heap.length) else renK n0 st.heap.length (G.ow x), heap := fun m => if m = st.heap.length then some w.heap.size else G.heap m }
 have hext : Ext w G w' G' := by
  refine ⟨rfl, rfl, rfl, by simp [w'], fun b hb _ => alloc_heap_old (w := w.drew) hb, fun b o h => ⟨h, alloc_cell_old (w := w.drew) (hf.fixlt _ _ h)⟩, fun _ _ h => .inl h, ?_, ?_, .same fun k hk => alloc_heap_old (w := w.drew) hk, rfl⟩
  ·intro b hb
   by_cases hlt : b < w.heap.size
   ·refine .inr ?_
    simp only [G'] at hb
    rw [if_neg (by omega)] at hb
    exact fun h => hb (renK_none.2 h)
   ·exact .inl (by omega)
  ·intro n b h
   have := hf.hdom _ _ h
   simp only [G']
   rw [if_neg (by omega)]; exact h
 have hkeep : Keep (fun key => ∃ k, key = .hcell n0 k) w G w' G' := by
  refine ⟨?_, fun _ _ h => h⟩
  intro b k hb hnk
  have hlt := hf.owlt _ _ hb
  refine ⟨?_, alloc_heap_old (w := w.drew) hlt, fun _ h => h⟩
  simp only [G']
  rw [if_neg (by omega), hb]; exact renK_keep fun i e => hnk ⟨i, e⟩
 have hobj : ObjR N w' G' st.heap.length w.heap.size (.cells ps) := by
  refine ⟨fun o h => by have := hf.fixlt _ _ h; omega, CS, e, alloc_heap_new (w := w.drew), hps, ?_⟩
  intro k c x hc hx
  obtain ⟨h1, h2, h3⟩ := hR k c x hc hx
  refine ⟨h1.ext hext, h2, ?_⟩
  split
  ·refine Room.ren h3 fun b hb => ?_
   have hlt := hf.owlt _ _ hb
   refine ⟨?_, alloc_heap_old (w := w.drew) hlt, fun _ h => h⟩
   simp only [G']
   rw [if_neg (by omega), hb]; exact renK_cell _ _ _
  ·trivial
 have hf1 : FI N w' G' { st with heap := heap1 ++ [.cells ps] } a vs (lmap vs ops) := by
  refine ⟨hf.len, fun i t u h1 h2 => (hf.var i t u h1 h2).keep hext hkeep (by simp) (by simp), fun j t u h1 h2 => (hf.loc j t u h1 h2).keep hext hkeep (by simp) (by simp), hf.tv, hf.tl, (hf.defers.trans hext.df.symm), hf.gen, ?_, ?_, ?_, ?_⟩
  ·intro b k hb
   simp only [G'] at hb
   split at hb
   ·simp [w']; omega
   ·cases hx : G.ow b with
    | none => rw [hx] at hb; simp [renK] at hb
    | some y => have := hf.owlt _ _ hx; simp [w']; omega
  ·intro b o h
   have := hf.fixlt _ _ h; simp [w']; omega
  ·refine hh1.push hext hkeep (fun n k hn => ?_) (.inr ⟨w.heap.size, by simp [G', hlen1], by simp [G', hlen1], by rw [hlen1]; exact hobj⟩)
   by_cases e : n = n0
   ·subst e; exact .inl (hn0 hn)
   ·exact .inr ⟨by simp, by simpa using e⟩
  ·intro n b h
   simp only [G'] at h
   split at h
   ·simp; omega
   ·have := hf.hdom _ _ h; simp; omega
 refine hk _ w' G' (hf1.put nm (cDst_ok ho) (SR.of_pure (.rowp _ _ _ _ w.heap.size cap (by simp [G']) hcap ⟨e, cap * sz, ?_, Nat.le_refl _⟩) rfl)) hext (put_size _ _ _)
 have h1 : w'.heap[w.heap.size]? = some (.cells CS e) := alloc_heap_new (w := w.drew)
 simp only [World.shape?, h1, hCS]
theorem happ_sound (hE : EnvOk E N) (nm : Names vs (lmap vs ops)) (ho : ops[j]? = some o) (hf : FI N w G st a vs (lmap vs ops)) {ts tx e e' : TypeId} {size : Nat} {z : List PV} {s x : Operand} {ps px : PX}
  (hop : o.op = .call { callee := .builtin .append, args := #[s, x], argTypes := #[ts, tx] }) (hts : P.underlying ts = some (.slice e)) (htx : P.underlying tx = some (.slice e')) (hn : sizeT P e = some size) (hz : zeroT P e = some z)
  (hs' : cx E vs ops s = some ps) (hx : cx E vs ops x = some px) {cf : CallF} (hs : hopv cf (.happ size (isAggT P e) (P.bytesOf e) ps px) st = some (u, st1)) (hk : Goes N w G a st1 u vs ops j o next) : o.wp P a w next Q := by
 obtain ⟨i, d, hi, hisz, hs0, hd⟩ := info_underlying hn
 obtain ⟨i2, zv, hi2, hzv, _, hzl, hzR, _⟩ := zeroT_sound (N := N) (w := w) (fix := G.fix) (hp := G.heap) hz
 have : i2 = i := by rw [hi] at hi2; simpa using hi2.symm
 subst this
 subst hisz
 have hzs : zv.cells.size = i2.size := by have := hzR.1; simp at this; omega
 have hby : P.bytesOf e = i2.bytes := by simp [Program.bytesOf, hi]
 have hop' : ∀ v w', (Builtin.append_ #[ts, tx] o.type #[a.eval s, a.eval x]).run P w = .ok v w' → (execOp a.eval o).run P w = .ok (.value v) w' := by
  intro v w' hr
  simp [execOp, hop, resolve, invoke, builtin, hr]
 have src : ∀ {xs : List PV}, elsOf st px = some xs → headOk i2.size xs = true → ∃ news, ListR N w G.fix G.heap i2.size news xs ∧ Src P i2.size tx (a.eval x) xs.length news w := by
  intro xs hro hh
  unfold elsOf at hro
  split at hro
  ·rename_i n sz agg len hrd
   split at hro
   ·rename_i hag
    simp only [Option.bind_eq_some_iff] at hro
    obtain ⟨cs, hg, hels⟩ := hro
    have hvx := (rd_sound hE hx hf hrd).1
    generalize hv : a.eval x = v at hvx
    cases hvx with
    | rowp _ _ _ _ b cap hb hcap hsh =>
      obtain ⟨ho1, ho2, cv, T, hh', hl, hcr⟩ := obj_open hf hg hb
      have hfl : ∀ (k : Nat) (y : PV), cs[k]? = some y → y.flat = true := fun k y hy => by
       have hlt : k < cv.size := by have := (List.getElem?_eq_some_iff.1 hy).1; omega
       exact (hcr k cv[k] y (by simp [hlt]) hy).2.1
      obtain ⟨e1, e2⟩ := rowEls_cells hfl hag hels
      by_cases hx0 : xs = []
      ·subst hx0
       simp only [List.length_nil] at e1
       subst e1
       exact ⟨[], ⟨by simp, by simp, by simp, by simp⟩, Src.ofSlice w htx ⟨b, 0, none⟩ 0 cap [] (by simp) (by simp) (by simp)⟩
      ·have hsz : sz = i2.size := by
        cases xs with
        | nil => exact absurd rfl hx0
        | cons y ys =>
          have h1 := (e2 0 y rfl).2.1
          simp [headOk] at hh
          omega
       subst hsz
       have hpos : 0 < xs.length := List.length_pos_iff.2 hx0
       have hlast := (e2 (xs.length - 1) (xs[xs.length - 1]'(by omega)) (List.getElem?_eq_getElem (by omega))).1
       have hend : xs.length * i2.size ≤ cs.length := by
        have : xs.length = (xs.length - 1) + 1 := by omega
        rw [this, Nat.add_mul, Nat.one_mul]; exact hlast
       let news := cv.toList.take (xs.length * i2.size)
       have hnl : news.length = xs.length * i2.size := by simp only [news, List.length_take, Array.length_toList]; omega
       have hng : ∀ (k : Nat) (u : Value), news[k]? = some u → cv[k]? = some u := by
        intro k u hu
        simp only [news, List.getElem?_take] at hu
        split at hu
        ·simpa using hu
        ·simp at hu
       have hL : ListR N w G.fix G.heap i2.size news xs := by
        refine ⟨hnl, ?_, ?_, ?_⟩
        ·intro e he
         obtain ⟨i, hi⟩ := List.mem_iff_getElem?.1 he
         exact (e2 i e hi).2.1
        ·intro e he y hy
         obtain ⟨i, hi⟩ := List.mem_iff_getElem?.1 he
         obtain ⟨j, hj⟩ := List.mem_iff_getElem?.1 hy
         obtain ⟨z, hz, rfl, _⟩ := (e2 i e hi).2.2 j y hj
         rw [flat_dem]; exact hfl _ z hz
        ·intro i e hi k c y hc hy
         obtain ⟨z, hz, rfl, _⟩ := (e2 i e hi).2.2 k y hy
         exact (hcr _ c z (hng _ _ hc) hz).1.dem
       refine ⟨news, hL, ?_⟩
       rw [← e1]
       exact Src.ofSlice w htx ⟨b, 0, none⟩ xs.length cap news hnl (fun j u hu => by
        rw [addr_add]
        have := hng j u hu
        simp only [World.cell?, hh', Nat.zero_add]
        simpa using this) (hL.one hs0)
   ·simp at hro
  rotate_left
  ·simp at hro
  rename_i p0 _ hrd
  have hrow := hro
  clear hro
  have hvx := (rd_sound hE hx hf hrd).1.row hrow
  obtain ⟨news, hRx, hcx⟩ := list_cells hvx hh
  refine ⟨news, hRx, ?_⟩
  rcases hcx with ⟨h1, h2, h3⟩ | ⟨ad, cap, h1, h2, h3⟩ | ⟨b, off, cap, h1, h2, h3⟩
  ·rw [h1, h2, h3]; exact Src.ofNil w htx 0
  ·rw [h1, h2, h3]; exact Src.ofSlice w htx ad 0 cap [] (by simp) (by simp) (by simp)
  ·rw [h1]
   exact Src.ofSlice w htx ⟨b, off, none⟩ xs.length cap news hRx.len (fun j u hu => by rw [addr_add]; exact (h3 j u hu).1) (hRx.one hs0)
 have grow : ∀ (n0 : Nat) {heap1 : List PObj} {xs oldps : List PV} {news olds : List Value} {base : Option Addr} {len cap : Nat}, (n0 < heap1.length → heap1[n0]? = some .gone) → HR N w G heap1 → heap1.length = st.heap.length → ListR N w G.fix G.heap i2.size news xs → Src P i2.size tx (a.eval x) xs.length news w → a.eval s = .slice base len cap →
   (Builtin.firstCells i2.size len (.slice base len cap)).run P w.drew = .ok olds.toArray w.drew → olds.length = len * i2.size → oldps.length = olds.length → (∀ (k : Nat) (c : Value) (y : PV), olds[k]? = some c → oldps[k]? = some y → CR N w G (.hcell n0 k) c y) →
   cap < len + xs.length → len + xs.length ≤ 2147483648 → i2.bytes ≤ 16384 →
   Goes N w G a { st with heap := heap1 ++ [.cells (oldps ++ (xs.flatMap PV.cells).map dem)] } (.rowp st.heap.length i2.size (isAggT P e) (len + xs.length)) vs ops j o next → o.wp P a w next Q := by
  intro n0 heap1 xs oldps news olds base len cap hn0 hh1 hl1 hRx hsrc hv hold hol hop1 hoR hcap hb1 hb2 hk
  have hbytes : (len + xs.length) * i2.bytes ≤ 140737488355328 := Nat.le_trans (Nat.mul_le_mul hb1 hb2) (by decide)
  have hrun := run_append_grow_src (P := P) w ts tx o.type e i2 zv hts hi hzv base len cap olds hold (a.eval x) xs.length news hsrc hcap (by omega) (growslice_fits hcap hbytes)
  rw [← hv] at hrun
  obtain ⟨hfl, hfR⟩ := hRx.flats hs0
  have hnc := grownCap_ge w (len + xs.length) cap e
  refine happ_new (v := undef) (sz := i2.size) (cap := grownCap w (len + xs.length) cap e) nm ho hf hh1 hl1 n0 hn0 (hop' _ _ hrun) hnc ?_ ?_ ?_ hk
  ·simp only [Array.size_append, List.size_toArray, size_zeroCells, hzs, hol, hRx.len, List.length_append]
   rw [Nat.sub_mul, Nat.add_mul]
   have : (len + xs.length) * i2.size ≤ grownCap w (len + xs.length) cap e * i2.size := Nat.mul_le_mul_right _ hnc
   rw [Nat.add_mul] at this
   omega
  ·simp only [Array.size_append, List.size_toArray, List.length_append, hop1]
   omega
  ·intro k c y hc hy
   by_cases hk1 : k < olds.length
   ·rw [List.getElem?_append_left (by omega)] at hy
    rw [Array.getElem?_append_left (by simp; omega)] at hc
    simp only [List.getElem?_toArray] at hc
    rw [List.getElem?_append_left hk1] at hc
    exact hoR k c y hc hy
   ·rw [List.getElem?_append_right (by omega)] at hy
    have hlt : k - olds.length < news.length := by
     rw [hfl, ← hop1]; exact (List.getElem?_eq_some_iff.1 hy).1
    rw [Array.getElem?_append_left (by simp; omega)] at hc
    simp only [List.getElem?_toArray] at hc
    rw [List.getElem?_append_right (by omega)] at hc
    rw [hop1] at hy
    exact CR.pure (hfR _ c y hc hy)
 simp only [hopv] at hs
 rw [hby] at hs
 split at hs
 ·rename_i xs n sz ag len hro hraw
  split at hs
  ·rename_i cs hob
   split at hs
   ·rename_i hc
    obtain ⟨rfl, rfl, hcl, hh2, hb1, hb2⟩ := hc
    simp only [Option.some.injEq, Prod.mk.injEq] at hs
    obtain ⟨rfl, rfl⟩ := hs
    obtain ⟨news, hRx, hsrc⟩ := src hro hh2
    have hvs := ((raw_sound hE hs' hf hraw).read (r := .rowp n i2.size (isAggT P e) len) rfl).1
    generalize hv : a.eval s = v at hvs
    cases hvs with
    | rowp _ _ _ _ b cap hb hcap hsh =>
      obtain ⟨T', m, hsh1, hsh2⟩ := hsh
      obtain ⟨ho1, ho2, cv, T, hh, hl, hcr⟩ := obj_open hf (show hget st n = some cs by simp [hget, hob]) hb
      have hm : m = cv.size := by simp only [World.shape?, hh, Option.some.injEq, Prod.mk.injEq] at hsh1; exact hsh1.2.symm
      subst hm
      have hcl0 := hcl
      obtain ⟨O, hO⟩ : ∃ O, cs.take (len * i2.size) = O := ⟨_, rfl⟩
      rw [hO] at hk
      have hcl : O.length = len * i2.size := by rw [← hO]; simp; omega
      have holdR : ∀ (k : Nat) (c : Value) (y : PV), (cv.toList.take (len * i2.size))[k]? = some c → O[k]? = some y → CR N w G (.hcell n k) c y := by
       intro k c y hc hy
       rw [← hO, List.getElem?_take] at hy
       rw [List.getElem?_take] at hc
       split at hc
       ·rw [if_pos (by assumption)] at hy
        exact hcr k c y (by simpa using hc) hy
       ·simp at hc
      have hol : (cv.toList.take (len * i2.size)).length = len * i2.size := by simp; omega
      have hcells : ∀ (k : Nat) (u : Value), (cv.toList.take (len * i2.size))[k]? = some u → w.cell? ⟨b, 0 + k, none⟩ = some u := by
       intro k u hu
       rw [List.getElem?_take] at hu
       split at hu
       ·simp only [World.cell?, hh, Nat.zero_add]; simpa using hu
       ·simp at hu
      by_cases hgrow : cap < len + xs.length
      ·refine grow n (heap1 := st.heap.set n .gone) (fun h => List.getElem?_set_self (by simpa using h)) ?_ (by simp) hRx hsrc hv (olds := cv.toList.take (len * i2.size)) ?_ hol (by rw [hcl, hol]) holdR hgrow hb1 hb2 hk
       ·exact hf.heap.keepBut (K := fun _ => False) (Ext.refl _ _) ⟨fun _ _ h _ => ⟨h, rfl, fun _ h => h⟩, fun _ _ h => h⟩ (fun _ _ _ => ⟨fun h => h, fun h => h⟩) (fun _ => .inl rfl)
       ·exact run_firstCells_some w.drew _ _ _ _ _ _ hol (fun k u hu => by rw [addr_add]; exact hcells k u hu)
      ·skip
       have hle : len + xs.length ≤ cap := by omega
       obtain ⟨hfl, hfR⟩ := hRx.flats hs0
       have hfit : len * i2.size + news.length ≤ cv.size := by
        rw [hRx.len]
        have : (len + xs.length) * i2.size ≤ cap * i2.size := Nat.mul_le_mul_right _ hle
        rw [Nat.add_mul] at this; omega
       let NR : Array Value := (cv.toList.take (len * i2.size) ++ news ++ cv.toList.drop (len * i2.size + news.length)).toArray
       have hNRs : NR.size = cv.size := by simp only [NR, List.size_toArray, List.length_append, List.length_take, List.length_drop, Array.length_toList]; omega
       have hrun : (Builtin.append_ #[ts, tx] o.type #[a.eval s, a.eval x]).run P w = .ok (.slice (some ⟨b, 0, none⟩) (len + xs.length) cap) (w.setRow b NR) := by
        have hst := run_storeCells_live P b (len * i2.size) T (0, 0) news 0 cv w hh (fun o _ h => by simp at h) (by simpa using hfit) (hRx.one hs0)
        simp only [Nat.add_zero] at hst
        rw [hv]
        rcases hsrc.kind with ⟨e'', hk'⟩ | hk' <;>
         simp [Builtin.append_, run_underlying hts, run_underlying hk', Go.sizeOf, typeInfo, hi, hsrc.len, hle, hsrc.cells, addr_add, hst, NR]
       have hblt : b < w.heap.size := hf.owlt _ _ ho1
       have hother : ∀ x, x ≠ b → (w.setRow b NR).heap[x]? = w.heap[x]? := fun x hx => setRow_other w b x _ hx
       let G' : GS := { G with heap := fun m => if m = st.heap.length then some b else G.heap m, ow := fun x => if x = b then some (.hobj st.heap.length) else renK n st.heap.length (G.ow x) }
       have hext : Ext w G (w.setRow b NR) G' := by
        refine ⟨rfl, rfl, rfl, by simp [World.setRow], ?_, ?_, fun _ _ h => .inl h, ?_, ?_, shape_setRow hh _ hNRs, rfl⟩
        ·intro y _ hyo
         exact hother y (by rintro rfl; rw [ho1] at hyo; simp at hyo)
        ·intro y o' hfx
         have hyb : y ≠ b := by rintro rfl; exact ho2 _ hfx
         exact ⟨hfx, by simp only [World.cell?, hother y hyb]⟩
        ·intro y hy
         simp only [G'] at hy
         split at hy
         ·rename_i hyb; exact .inr (by rw [hyb, ho1]; simp)
         ·exact .inr fun h => hy (renK_none.2 h)
        ·intro m y hy
         have := hf.hdom _ _ hy
         simp only [G']
         rw [if_neg (by omega)]; exact hy
       have hkeep : Keep (fun k => k = .hobj n ∨ ∃ i, k = .hcell n i) w G (w.setRow b NR) G' := by
        refine ⟨?_, fun _ _ h => h⟩
        intro y k hy hnk
        have hyb : y ≠ b := by rintro rfl; rw [ho1] at hy; simp at hy; exact hnk (.inl hy.symm)
        refine ⟨?_, hother y hyb, fun _ h => h⟩
        simp only [G']; rw [if_neg hyb, hy]; exact renK_keep fun i e => hnk (.inr ⟨i, e⟩)
       have hnlt : n < st.heap.length := (List.getElem?_eq_some_iff.1 hob).1
       have hheap : HR N (w.setRow b NR) G' (st.heap.set n .gone ++ [.cells (O ++ (xs.flatMap PV.cells).map dem)]) := by
        refine ⟨?_, hf.heap.2.ext hext⟩
        intro m ob hm
        by_cases hml : m < (st.heap.set n .gone).length
        ·rw [List.getElem?_append_left hml, List.getElem?_set] at hm
         split at hm
         ·exact .inl (by simpa [hnlt] using hm.symm)
         ·rename_i hne
          rcases hf.heap.1 m ob hm with rfl | ⟨y, h1, h2, h3⟩
          ·exact .inl rfl
          ·exact .inr ⟨y, hext.heap _ _ h1, (hkeep.1 _ _ h2 (by simp; omega)).1, h3.keep h2 hext hkeep (by simp; omega) (by simp; omega)⟩
        ·rw [List.getElem?_append_right (by omega)] at hm
         simp only [List.length_set] at hm hml
         have hm0 : m - st.heap.length = 0 := by
          cases hx : m - st.heap.length with
          | zero => rfl
          | succ k => rw [hx] at hm; simp at hm
         rw [hm0] at hm
         simp at hm
         subst hm
         have hm' : m = st.heap.length := by omega
         subst hm'
         refine .inr ⟨b, by simp [G'], by simp [G'], fun o' h => ho2 o' h, NR, T, setRow_heap w b cv NR T (0, 0) hh, ?_, ?_⟩
         ·simp only [List.length_append]
          rw [← hfl, hcl, hNRs]; exact hfit
         ·intro k c y hc hy
          have hfin : CR N w G (.hcell n k) c y := by
           simp only [NR, List.getElem?_toArray, List.append_assoc] at hc
           by_cases hk1 : k < len * i2.size
           ·rw [List.getElem?_append_left (by rw [hcl]; exact hk1)] at hy
            rw [List.getElem?_append_left (by rw [hol]; exact hk1)] at hc
            exact holdR k c y hc hy
           ·rw [List.getElem?_append_right (by rw [hcl]; omega), hcl] at hy
            have hlt : k - len * i2.size < news.length := by rw [hfl]; exact (List.getElem?_eq_some_iff.1 hy).1
            rw [List.getElem?_append_right (by rw [hol]; omega), hol, List.getElem?_append_left hlt] at hc
            exact CR.pure (hfR _ c y hc hy)
          refine ⟨hfin.1.ext hext, hfin.2.1, ?_⟩
          have hroom := hfin.2.2
          split at hroom
          ·refine Room.ren hroom fun x hx => ?_
           have hxb : x ≠ b := by rintro rfl; rw [ho1] at hx; simp at hx
           refine ⟨?_, hother x hxb, fun _ h => h⟩
           simp only [G']; rw [if_neg hxb, hx]; exact renK_cell _ _ _
          ·trivial
       unfold Oper.wp
       rw [hop' _ _ hrun]
       have hf1 : FI N (w.setRow b NR) G' { st with heap := st.heap.set n .gone ++ [.cells (O ++ (xs.flatMap PV.cells).map dem)] } a vs (lmap vs ops) := by
        refine ⟨hf.len, fun i t u h1 h2 => (hf.var i t u h1 h2).keep hext hkeep (by simp) (by simp), fun j t u h1 h2 => (hf.loc j t u h1 h2).keep hext hkeep (by simp) (by simp), hf.tv, hf.tl, hf.defers, hf.gen, ?_, ?_, hheap, ?_⟩
        ·intro y k hy
         simp only [G'] at hy
         split at hy
         ·rename_i hyb; simp [World.setRow, hyb, hblt]
         ·cases hx : G.ow y with
          | none => rw [hx] at hy; simp [renK] at hy
          | some z => have := hf.owlt _ _ hx; simpa [World.setRow] using this
        ·intro y o' h; have := hf.fixlt _ _ h; simpa [World.setRow] using this
        ·intro m y hy
         simp only [G'] at hy
         split at hy
         ·simp; omega
         ·have := hf.hdom _ _ hy; simp; omega
       refine hk _ _ G' (hf1.put nm (cDst_ok ho) (SR.of_pure (.rowp _ _ _ _ b cap (by simp [G']) hle ⟨T, cv.size, ?_, hsh2⟩) rfl)) hext (put_size _ _ _)
       simp only [World.shape?, setRow_heap w b cv NR T (0, 0) hh, hNRs]
   ·simp at hs
  ·simp at hs
 ·rename_i xs hro hraw
  have hsr := raw_sound hE hs' hf hraw
  obtain ⟨hvr, hroom⟩ : VR N w G.fix G.heap (a.eval s) (.list true []) ∧ Room w G (keyX ps) (a.eval s) [] := hsr
  have hform : ∃ base, a.eval s = .slice base 0 0 := by
   generalize a.eval s = v at hvr hroom
   cases hvr with
   | nils => exact ⟨none, rfl⟩
   | void _ ad cap =>
     rcases hroom with h | ⟨_, _, _, _, _, _, _, h, _⟩
     ·subst h; exact ⟨_, rfl⟩
     ·simp at h
   | list _ b off len cap sz _ cv hlen hcap _ _ _ _ =>
     simp at hlen; subst hlen
     rcases hroom with h | ⟨_, _, _, _, _, _, _, h, _⟩
     ·subst h; exact ⟨_, rfl⟩
     ·simp at h
  obtain ⟨base, hv⟩ := hform
  split at hs
  ·rename_i hx0
   subst hx0
   simp only [Option.some.injEq, Prod.mk.injEq] at hs
   obtain ⟨rfl, rfl⟩ := hs
   obtain ⟨news, hRx, hsrc⟩ := src hro rfl
   have hn0 : news = [] := List.length_eq_zero_iff.1 (by rw [hRx.len]; simp)
   subst hn0
   refine wp_value nm ho hf (hop' _ _ (none_app hv hsrc hts hi rfl)) ?_ hk
   cases base with
   | none => exact ⟨.nils true, True.intro⟩
   | some ad => exact ⟨.void true ad 0, .inl rfl⟩
  ·rename_i hx0
   split at hs
   ·rename_i hc
    obtain ⟨hh2, hb1, hb2⟩ := hc
    simp only [Option.some.injEq, Prod.mk.injEq] at hs
    obtain ⟨rfl, rfl⟩ := hs
    obtain ⟨news, hRx, hsrc⟩ := src hro hh2
    have hpos : 0 < xs.length := List.length_pos_iff.2 hx0
    have hold : (Builtin.firstCells i2.size 0 (.slice base 0 0)).run P w.drew = .ok ([] : List Value).toArray w.drew := by
     cases base with
     | none => exact run_firstCells_none w.drew _ _ _ _
     | some ad => exact run_firstCells_some w.drew _ _ _ _ _ [] (by simp) (by simp)
    refine grow st.heap.length (heap1 := st.heap) (oldps := []) (fun h => absurd h (Nat.lt_irrefl _)) hf.heap rfl hRx hsrc hv hold (by simp) rfl (by simp) (by omega) (by omega) hb2 ?_
    simpa using hk
   ·simp at hs
 ·rename_i xs hro hraw
  have hvr : VR N w G.fix G.heap (a.eval s) .nils := ((raw_sound hE hs' hf hraw).read (r := .nils) rfl).1
  have hv : a.eval s = .slice none 0 0 := by
   generalize a.eval s = v at hvr
   cases hvr with
   | nils' => rfl
  split at hs
  ·rename_i hx0
   subst hx0
   simp only [Option.some.injEq, Prod.mk.injEq] at hs
   obtain ⟨rfl, rfl⟩ := hs
   obtain ⟨news, hRx, hsrc⟩ := src hro rfl
   have hn0 : news = [] := List.length_eq_zero_iff.1 (by rw [hRx.len]; simp)
   subst hn0
   exact wp_value nm ho hf (hop' _ _ (none_app hv hsrc hts hi rfl)) (SR.of_pure .nils' rfl) hk
  ·rename_i hx0
   split at hs
   ·rename_i hc
    obtain ⟨hh2, hb1, hb2⟩ := hc
    simp only [Option.some.injEq, Prod.mk.injEq] at hs
    obtain ⟨rfl, rfl⟩ := hs
    obtain ⟨news, hRx, hsrc⟩ := src hro hh2
    have hpos : 0 < xs.length := List.length_pos_iff.2 hx0
    refine grow st.heap.length (heap1 := st.heap) (oldps := []) (fun h => absurd h (Nat.lt_irrefl _)) hf.heap rfl hRx hsrc hv (run_firstCells_none w.drew _ _ _ _) (by simp) rfl (by simp) (by omega) (by omega) hb2 ?_
    simpa using hk
   ·simp at hs
 ·simp at hs
/-- An append of zeros to nothing. -/
theorem run_append_zeros (w : World) (ts tx ty e : TypeId) (i : TypeInfo) (zv : Value) {k0 : IntKind} (hts : P.underlying ts = some (.slice e)) (htx : P.underlying tx = some (.int k0)) (hi : P.info? e = some i) (hz : i.zero = some zv) (k : IntKind) (n : Nat)
  (h0 : 0 < n) (hn : n ≤ 2147483648) (hb : i.bytes ≤ 16384) :
  (Builtin.append_ #[ts, tx] ty #[.slice none 0 0, .int k n]).run P w = .ok (.slice (some ⟨w.heap.size, 0, none⟩) n (grownCap w n 0 e))
   (w.drew.alloc (.cells ((if n * i.size = 0 then #[] else Builtin.zeroCells zv.cells n) ++ Builtin.zeroCells zv.cells (grownCap w n 0 e - n)) e)) := by
 have hbytes : n * i.bytes ≤ 140737488355328 := Nat.le_trans (Nat.mul_le_mul hn hb) (by decide)
 have hfit := growslice_fits (need := n) (old := 0) (bytes := i.bytes) h0 hbytes
 have hfit' : ¬ (281474976710656 < Builtin.nextslicecap n 0 * i.bytes) := by omega
 have hw : IntKind.i64.wrap (n : Int) = n := by
  show (if (true && decide ((n : Int) % 18446744073709551616 ≥ 9223372036854775808)) = true then (n : Int) % 18446744073709551616 - 18446744073709551616 else (n : Int) % 18446744073709551616) = _
  simp only [Bool.true_and, decide_eq_true_eq]
  split <;> omega
 have h1 : ¬ ((n : Int) < 0) := by omega
 have h2 : ¬ ((281474976710656 : Int) < (n : Int) * (i.bytes : Int)) := by
  have : ((n * i.bytes : Nat) : Int) ≤ 140737488355328 := Int.ofNat_le.2 hbytes
  rw [Int.natCast_mul] at this
  omega
 have h3 : ¬ ((9223372036854775807 : Int) < (n : Int)) := by omega
 have h4 : ¬ (n = 0) := by omega
 by_cases hsz : n * i.size = 0
 ·simp [Builtin.append_, run_underlying hts, run_underlying htx, Go.sizeOf, typeInfo, zeroValue, hi, hz, asInt, asIntOf, hw, h1, h2, h3, h4, hfit', Question.forced, newRow, grownCap, Builtin.firstCells, hsz]
 ·simp [Builtin.append_, run_underlying hts, run_underlying htx, Go.sizeOf, typeInfo, zeroValue, hi, hz, asInt, asIntOf, hw, h1, h2, h3, h4, hfit', Question.forced, newRow, grownCap, Builtin.firstCells, hsz]
theorem happz_sound (hE : EnvOk E N) (nm : Names vs (lmap vs ops)) (ho : ops[j]? = some o) (hf : FI N w G st a vs (lmap vs ops)) {ts tx e : TypeId} {k0 : IntKind} {size : Nat} {z : List PV} {s x : Operand} {ps px : PX}
  (hop : o.op = .call { callee := .builtin .append, args := #[s, x], argTypes := #[ts, tx] }) (hts : P.underlying ts = some (.slice e)) (htx : P.underlying tx = some (.int k0)) (hn : sizeT P e = some size) (hz : zeroT P e = some z)
  (hs' : cx E vs ops s = some ps) (hx : cx E vs ops x = some px) {cf : CallF} (hs : hopv cf (.happz size (isAggT P e) (P.bytesOf e) z ps px) st = some (u, st1)) (hk : Goes N w G a st1 u vs ops j o next) : o.wp P a w next Q := by
 obtain ⟨i, d, hi, hisz, hs0, hd⟩ := info_underlying hn
 obtain ⟨i2, zv, hi2, hzv, _, hzl, hzR, _⟩ := zeroT_sound (N := N) (w := w) (fix := G.fix) (hp := G.heap) hz
 have : i2 = i := by rw [hi] at hi2; simpa using hi2.symm
 subst this
 subst hisz
 have hzs : zv.cells.size = i2.size := by have := hzR.1; simp at this; omega
 have hzlen : z.length = i2.size := by have := hzR.1; simp at this; omega
 have hby : P.bytesOf e = i2.bytes := by simp [Program.bytesOf, hi]
 simp only [hopv] at hs
 rw [hby] at hs
 split at hs
 ·rename_i n hn0 hr0
  split at hs
  ·rename_i hc
   obtain ⟨h0, h1, hb⟩ := hc
   simp only [Option.some.injEq, Prod.mk.injEq] at hs
   obtain ⟨rfl, rfl⟩ := hs
   obtain ⟨k, hl⟩ := rdInt_sound hE hx hf hn0
   have hv : a.eval s = .slice none 0 0 := by
    have := (rd_sound hE hs' hf hr0).1
    generalize a.eval s = v at this
    cases this
    rfl
   obtain ⟨m, rfl⟩ : ∃ m : Nat, n = m := ⟨n.toNat, by omega⟩
   have hrun := run_append_zeros (P := P) w ts tx o.type e i2 zv hts htx hi hzv k m (by omega) (by omega) hb
   rw [← hv, ← hl] at hrun
   have hrun' : (execOp a.eval o).run P w = .ok (.value (.slice (some ⟨w.heap.size, 0, none⟩) m (grownCap w m 0 e))) (w.drew.alloc (.cells ((if m * i2.size = 0 then #[] else Builtin.zeroCells zv.cells m) ++ Builtin.zeroCells zv.cells (grownCap w m 0 e - m)) e)) := by
    simp [execOp, hop, resolve, invoke, builtin, hrun]
   have hpos : ¬ m * i2.size = 0 := by
    intro h
    rcases Nat.mul_eq_zero.1 h with h | h <;> omega
   rw [if_neg hpos] at hrun'
   have hnc := grownCap_ge w m 0 e
   refine happ_new (v := undef) (sz := i2.size) (cap := grownCap w m 0 e) nm ho hf hf.heap rfl st.heap.length (fun h => absurd h (Nat.lt_irrefl _)) hrun' hnc ?_ ?_ ?_ hk
   ·simp only [Array.size_append, size_zeroCells, hzs]
    rw [Nat.sub_mul]
    have : m * i2.size ≤ grownCap w m 0 e * i2.size := Nat.mul_le_mul_right _ hnc
    omega
   ·simp [List.length_flatten, hzlen, size_zeroCells, hzs]
   ·intro k c y hc hy
    simp only [Int.toNat_natCast] at hy
    rw [flat_get, List.length_map, hzlen] at hy
    split at hy
    ·rename_i hlt
     rw [Array.getElem?_append_left (by rw [size_zeroCells, hzs]; exact hlt)] at hc
     have hmod : k % i2.size < i2.size := Nat.mod_lt _ (by omega)
     have hc' : c = zv.cells[k % i2.size]! := by
      simp only [Builtin.zeroCells, Array.getElem?_map, Option.map_eq_some_iff] at hc
      obtain ⟨a', ha, rfl⟩ := hc
      have : a' = k := by
       obtain ⟨h1, h2⟩ := Array.getElem?_eq_some_iff.1 ha
       simpa using h2.symm
      rw [this, hzs]
     have hcz : zv.cells[k % i2.size]? = some c := by
      rw [hc']
      have : k % i2.size < zv.cells.size := by omega
      simp [this]
     simp only [List.getElem?_map, Option.map_eq_some_iff] at hy
     obtain ⟨y0, hy, rfl⟩ := hy
     exact CR.pure ⟨(hzR.2.2 _ c y0 (by simpa using hcz) hy).dem, by rw [flat_dem]; exact hzR.2.1 y0 (List.mem_of_getElem? hy), dem_notOwn y0⟩
    ·simp at hy
  ·simp at hs
 ·simp at hs
/-- A key is struck from a map. -/
theorem mdel_sound (hE : EnvOk E N) (nm : Names vs (lmap vs ops)) (ho : ops[j]? = some o) (hf : FI N w G st a vs (lmap vs ops)) {t kt e : TypeId} {rest : List TypeId} {m x : Operand} {kk : Bool × List EK} {pm px : PX}
  (hop : o.op = .call { callee := .builtin .delete, args := #[m, x], argTypes := ⟨t :: rest⟩ }) (hdst : o.dst = none) (hu : P.underlying t = some (.map kt e)) (hkk : keyT P kt = some kk) (hm : cx E vs ops m = some pm) (hx : cx E vs ops x = some px) {cf : CallF}
  (hs : hopv cf (.mdel kk.1 kk.2 pm px) st = some (u, st1)) (hk : Goes N w G a st1 u vs ops j o next) : o.wp P a w next Q := by
 simp only [hopv] at hs
 split at hs
 ·rename_i n k hrm hrk
  have hkv := (rd_sound hE hx hf hrk).1
  have hmv := (rd_sound hE hm hf hrm).1
  simp only [Option.bind_eq_some_iff, Option.map_eq_some_iff] at hs
  obtain ⟨es, hg, r, hfi, hs⟩ := hs
  generalize hmval : a.eval m = mv at hmv
  cases hmv with
  | map _ b hb =>
    obtain ⟨ho1, hgn, hobj⟩ := map_open hf hg hb
    obtain ⟨mes, clock, a1, a2, a3, a4, a5⟩ := hobj
    have hblt : b < w.heap.size := hf.owlt _ _ ho1
    have hput : a.put o.dst (.tuple #[]) = a := by simp [hdst, Act.put]
    have hdn : cDst vs o.dst = .n := by simp [hdst, cDst]
    have finish : ∀ (mes' : Array MapEntry) (es' : List (PV × PV)), (execOp a.eval o).run P w = .ok (.value (.tuple #[])) { w with heap := w.heap.setIfInBounds b (.map mes' clock) } → mes'.size = es'.length →
      (∀ (i : Nat) (e : MapEntry), mes'[i]? = some e → e.born < clock) → (∀ (i i' : Nat) (e e' : MapEntry), mes'[i]? = some e → mes'[i']? = some e' → e.born = e'.born → i = i') →
      (∀ (i : Nat) (e : MapEntry) (p : PV × PV), mes'[i]? = some e → es'[i]? = some p → VR N w G.fix G.heap e.key p.1 ∧ MR N w G (.hcell n i) e.val p.2) → u = .dead → st1 = hset st n (.map es') → o.wp P a w next Q := by
     intro mes' es' hrun b2 b3 b4 b5 hu' hst1
     subst hu' hst1
     obtain ⟨hext2, hnew, hother⟩ := map_write (G := G) hblt ⟨mes, clock, a1⟩ (by rw [ho1]; simp) mes' clock
     unfold Oper.wp
     rw [hrun]
     have hkeep2 : Keep (fun k => k = .hobj n) w G { w with heap := w.heap.setIfInBounds b (.map mes' clock) } G := by
      refine ⟨?_, fun _ _ h => h⟩
      intro x k hxk hnk
      refine ⟨hxk, hother x ?_, fun _ h => h⟩
      rintro rfl
      rw [ho1] at hxk
      simp at hxk
      exact hnk hxk.symm
     have hf2 : FI N { w with heap := w.heap.setIfInBounds b (.map mes' clock) } G (hset st n (.map es')) a vs (lmap vs ops) := by
      refine ⟨hf.len, fun i t' u' h1 h2 => (hf.var i t' u' h1 h2).keep hext2 hkeep2 (by simp) (by simp), fun i t' u' h1 h2 => (hf.loc i t' u' h1 h2).keep hext2 hkeep2 (by simp) (by simp), hf.tv, hf.tl, hf.defers, hf.gen, ?_, ?_, ?_, ?_⟩
      ·intro x k hx; simpa using hf.owlt x k hx
      ·intro x o' hx; simpa using hf.fixlt x o' hx
      ·refine hf.heap.keepBut hext2 hkeep2 (fun n' k hne => ⟨by simp; omega, by simp⟩) (fun _ => ?_)
       refine .inr ⟨b, hb, ho1, mes', clock, hnew, b2, b3, b4, ?_⟩
       intro i en p hi hp
       obtain ⟨c1, c2⟩ := b5 i en p hi hp
       exact ⟨c1.ext hext2, c2.keep hext2 hkeep2 (by simp)⟩
      ·simp only [hset, List.length_set]; exact hf.hdom
     show next (a.put o.dst (.tuple #[])) _
     rw [hput]
     refine hk _ _ G ?_ hext2 rfl
     rw [hdn]
     exact hf2
    rcases findK_sound hkk hkv (mes := mes.toList) (es := es) (by simpa using a2) (fun i e p h1 h2 => (a5 i e p (by simpa using h1) h2).1) hfi with ⟨rfl, h2⟩ | ⟨i, v', en, p1, rfl, h2, h3, h4, h5⟩
    ·skip
     simp only [Prod.mk.injEq] at hs
     obtain ⟨rfl, rfl⟩ := hs
     refine finish mes es ?_ a2 a3 a4 a5 rfl rfl
     simp [execOp, hop, hmval, resolve, invoke, builtin, Builtin.delete_, run_underlying hu, MapKept.run_getObj_map a1, run_checkKeyK hkk hkv hfi, h2, MapKept.run_setObj_map _ a1]
    ·skip
     simp only [Prod.mk.injEq] at hs
     obtain ⟨rfl, rfl⟩ := hs
     have hlt : i < mes.size := by have := (List.getElem?_eq_some_iff.1 h3).1; simpa using this
     have hg' : ∀ (i' : Nat) (e' : MapEntry), (mes.eraseIdxIfInBounds i)[i']? = some e' → mes[if i' < i then i' else i' + 1]? = some e' := by
      intro i' e' he'
      rw [Array.eraseIdxIfInBounds, dif_pos hlt, Array.getElem?_eraseIdx] at he'
      split at he'
      ·rename_i hi; rw [if_pos hi]; exact he'
      ·rename_i hi; rw [if_neg hi]; exact he'
     refine finish (mes.eraseIdxIfInBounds i) ((es.eraseIdx i).map fun e => (e.1, dem e.2)) ?_ ?_ ?_ ?_ ?_ rfl rfl
     ·simp [execOp, hop, hmval, resolve, invoke, builtin, Builtin.delete_, run_underlying hu, MapKept.run_getObj_map a1, run_checkKeyK hkk hkv hfi, h2, MapKept.run_setObj_map _ a1]
     ·rw [Array.eraseIdxIfInBounds, dif_pos hlt, Array.size_eraseIdx, List.length_map, List.length_eraseIdx, if_pos (by omega), a2]
     ·intro i' e' he'
      exact a3 _ e' (hg' i' e' he')
     ·intro i1 i2 e1 e2 he1 he2 hborn
      have := a4 _ _ e1 e2 (hg' i1 e1 he1) (hg' i2 e2 he2) hborn
      split at this <;> split at this <;> omega
     ·intro i' e' p he' hp
      have h6 := hg' i' e' he'
      rw [List.getElem?_map, List.getElem?_eraseIdx] at hp
      obtain ⟨q, hq, rfl⟩ := Option.map_eq_some_iff.1 hp
      have hq' : es[if i' < i then i' else i' + 1]? = some q := by
       split at hq
       ·rename_i hi; rw [if_pos hi]; exact hq
       ·rename_i hi; rw [if_neg hi]; exact hq
      obtain ⟨c1, c2⟩ := a5 _ e' q h6 hq'
      refine ⟨c1, c2.1.dem, ?_⟩
      show match dem q.2 with | .list true es => _ | _ => True
      split
      ·rename_i h; exact absurd h (dem_notOwn _ _)
      ·trivial
 ·simp at hs
/-- The end of a row of the heap is struck. -/
theorem clear_sound (hE : EnvOk E N) (nm : Names vs (lmap vs ops)) (ho : ops[j]? = some o) (hf : FI N w G st a vs (lmap vs ops)) {t e : TypeId} {rest : List TypeId} {size : Nat} {z : List PV} {x : Operand} {px : PX} (hdst : o.dst = none)
  (hop : o.op = .call { callee := .builtin .clear, args := #[x], argTypes := ⟨t :: rest⟩ }) (hu : P.underlying t = some (.slice e)) (hn : sizeT P e = some size) (hz : zeroT P e = some z)
  (hx : cx E vs ops x = some px) {cf : CallF} (hs : hopv cf (.clear size px) st = some (u, st1)) (hk : Goes N w G a st1 u vs ops j o next) : o.wp P a w next Q := by
 obtain ⟨i, d, hi, hisz, hs0, hd⟩ := info_underlying hn
 obtain ⟨i2, zv, hi2, hzv, _, hzl, hzR, _⟩ := zeroT_sound (N := N) (w := w) (fix := G.fix) (hp := G.heap) hz
 have : i2 = i := by rw [hi] at hi2; simpa using hi2.symm
 subst this
 subst hisz
 have hzs : zv.cells.size = i2.size := by have := hzR.1; simp at this; omega
 simp only [hopv] at hs
 split at hs
 ·rename_i n sz off hrb
  split at hs
  ·rename_i cs hob
   split at hs
   ·rename_i hc
    obtain ⟨rfl, hoff⟩ := hc
    simp only [Option.some.injEq, Prod.mk.injEq] at hs
    obtain ⟨rfl, rfl⟩ := hs
    obtain ⟨agg, len, hvx⟩ : ∃ agg len, VR N w G.fix G.heap (a.eval x) (.rows n i2.size agg off len) := by
     obtain ⟨p, hr, hp⟩ := Option.bind_eq_some_iff.1 hrb
     have hvx := (rd_sound hE hx hf hr).1
     cases p <;> simp only [tailOf, Option.some.injEq, Prod.mk.injEq, reduceCtorEq] at hp
     ·rename_i n' sz' ag ln
      obtain ⟨rfl, rfl, rfl⟩ := hp
      generalize a.eval x = v at hvx ⊢
      cases hvx with
      | rowp _ _ _ _ b cap h hcap hsh =>
        obtain ⟨T, m, h1, h2⟩ := hsh
        exact ⟨ag, ln, .rows _ _ _ 0 _ b 0 cap m T h hcap (.inr (by simp)) h1 (by rw [Nat.zero_add]; exact Nat.le_trans (Nat.mul_le_mul_right _ hcap) h2)⟩
     ·obtain ⟨rfl, rfl, rfl⟩ := hp
      exact ⟨_, _, hvx⟩
    generalize hv : a.eval x = v at hvx
    cases hvx with
    | rows _ _ _ _ _ b o' cap m T hb hcap hoo hsh hm =>
      obtain ⟨ho1, ho2, cv, T', hh, hl, hcr⟩ := obj_open hf (show hget st n = some cs by simp [hget, hob]) hb
      have hmv : m = cv.size := by simp only [World.shape?, hh, Option.some.injEq, Prod.mk.injEq] at hsh; exact hsh.2.symm
      subst hmv
      have hblt : b < w.heap.size := hf.owlt _ _ ho1
      obtain ⟨NR, hNs, hNk, hrun⟩ : ∃ NR : Array Value, NR.size = cv.size ∧ (∀ k, k < off * i2.size → NR[k]? = cv[k]?) ∧ (execOp a.eval o).run P w = .ok (.value (.tuple #[])) (w.setRow b NR) := by
       cases len with
       | zero =>
         refine ⟨cv, rfl, fun _ _ => rfl, ?_⟩
         have hw : w.setRow b cv = w := by
          have h2 : (w.setRow b cv).heap = w.heap := by
           apply Array.ext_getElem?
           intro k
           by_cases hkb : k = b
           ·subst hkb; rw [setRow_heap w k cv cv T' (0, 0) hh, hh]
           ·exact setRow_other w b k _ hkb
          exact congrArg (fun h => { w with heap := h }) h2
         rw [hw]
         simp [execOp, hop, hv, resolve, invoke, builtin, Builtin.clear_, run_underlying hu]
       | succ len =>
         have ho : o' = off * i2.size := by rcases hoo with h | h; exact absurd h (by omega); exact h
         subst ho
         let zs : List Value := (Builtin.zeroCells zv.cells (len + 1)).toList
         have hzl2 : zs.length = (len + 1) * i2.size := by simp only [zs, Array.length_toList, size_zeroCells, hzs]
         have hst := run_storeCells_live P b (off * i2.size) T' (0, 0) zs 0 cv w hh (fun o _ h => by simp at h) (by rw [Nat.add_mul] at hm; simp only [hzl2]; omega) (by
          intro u hu
          simp only [zs, Builtin.zeroCells, Array.toList_map, List.mem_map] at hu
          obtain ⟨a', _, rfl⟩ := hu
          have hmod : a' % zv.cells.size < zv.cells.size := Nat.mod_lt _ (by omega)
          have hcz : zv.cells[a' % zv.cells.size]? = some zv.cells[a' % zv.cells.size]! := by simp [hmod]
          have hzl3 : a' % zv.cells.size < z.length := by have := hzR.1; simp at this; omega
          have h1 := (hzR.2.2 _ _ z[a' % zv.cells.size] (by simpa using hcz) (List.getElem?_eq_getElem hzl3)).oneCell (hzR.2.1 _ (List.getElem_mem hzl3))
          generalize zv.cells[a' % zv.cells.size]! = c at h1
          cases c <;> first | rfl | simp [oneCell] at h1)
         refine ⟨(cv.toList.take (off * i2.size) ++ zs ++ cv.toList.drop (off * i2.size + zs.length)).toArray, ?_, ?_, ?_⟩
         ·rw [Nat.add_mul] at hm
          simp only [List.size_toArray, List.length_append, List.length_take, List.length_drop, Array.length_toList, hzl2]; omega
         ·intro k hk
          rw [Nat.add_mul] at hm
          simp only [List.getElem?_toArray, List.append_assoc]
          rw [List.getElem?_append_left (by simp; omega), List.getElem?_take, if_pos hk]
          simp
         ·simp only [zs] at hst
          simp [execOp, hop, hv, resolve, invoke, builtin, Builtin.clear_, run_underlying hu, zeroValue, typeInfo, hi, hzv, hst, zs]
      have hother : ∀ x, x ≠ b → (w.setRow b NR).heap[x]? = w.heap[x]? := fun x hx => setRow_other w b x _ hx
      have hext : Ext w G (w.setRow b NR) G := by
       refine ⟨rfl, rfl, rfl, by simp [World.setRow], ?_, ?_, fun _ _ h => .inl h, fun _ h => .inr h, fun _ _ h => h, shape_setRow hh _ hNs, rfl⟩
       ·intro x _ hxo
        exact hother x (by rintro rfl; rw [ho1] at hxo; simp at hxo)
       ·intro x o' hfx
        refine ⟨hfx, ?_⟩
        have hxb : x ≠ b := by rintro rfl; exact ho2 _ hfx
        simp only [World.cell?, hother x hxb]
      have hkeep : Keep (fun k => k = .hobj n) w G (w.setRow b NR) G := by
       refine ⟨?_, fun _ _ h => h⟩
       intro x k hxk hnk
       refine ⟨hxk, hother x ?_, fun _ h => h⟩
       rintro rfl
       rw [ho1] at hxk
       simp at hxk
       exact hnk hxk.symm
      have hf2 : FI N (w.setRow b NR) G { st with heap := st.heap.set n (.cells (cs.take (off * i2.size))) } a vs (lmap vs ops) := by
       refine ⟨hf.len, fun i t' u' h1 h2 => (hf.var i t' u' h1 h2).keep hext hkeep (by simp) (by simp), fun i t' u' h1 h2 => (hf.loc i t' u' h1 h2).keep hext hkeep (by simp) (by simp), hf.tv, hf.tl, hf.defers, hf.gen, ?_, ?_, ?_, ?_⟩
       ·intro x k hx; simpa [World.setRow] using hf.owlt x k hx
       ·intro x o' hx; simpa [World.setRow] using hf.fixlt x o' hx
       ·refine hf.heap.keepBut hext hkeep (fun n k hne => ⟨by simp; omega, by simp⟩) (fun _ => ?_)
        refine .inr ⟨b, hb, ho1, ho2, NR, T', setRow_heap w b cv NR T' (0, 0) hh, ?_, ?_⟩
        ·simp; omega
        ·intro k c y hc hy
         rw [List.getElem?_take] at hy
         split at hy
         ·rename_i hk2
          rw [hNk k hk2] at hc
          exact (hcr k c y hc hy).keep hext hkeep (by simp)
         ·simp at hy
       ·simp only [List.length_set]; exact hf.hdom
      unfold Oper.wp
      rw [hrun]
      have hput : a.put o.dst (.tuple #[]) = a := by simp [hdst, Act.put]
      have hd : cDst vs o.dst = .n := by simp [hdst, cDst]
      show next (a.put o.dst (.tuple #[])) _
      rw [hput]
      refine hk _ _ G ?_ hext rfl
      rw [hd]
      exact hf2
   ·simp at hs
  ·simp at hs
 ·simp at hs
end
end PI
