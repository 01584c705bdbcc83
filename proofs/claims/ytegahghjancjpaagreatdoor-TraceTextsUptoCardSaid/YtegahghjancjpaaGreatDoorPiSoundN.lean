/-
  The pure interpreter is right: rows of the heap, iterators, bytes.
-/
import Derived.Test.YtegahghjancjpaaGreatDoorPiSoundH2
import Derived.Laws.MakeOwn
import Derived.Laws.RangeString
set_option linter.unusedSimpArgs false
set_option linter.unusedVariables false
namespace PI
open Go

section
variable {E : Env} {N : Nm} {w : World} {G : GS} {st : St} {a : Act} {vs : List Tmp} {ops : List Oper} {P : Program}
variable {o : Oper} {j : Nat} {next : Act → World → Prop} {Q : Exit → Act → World → Prop} {u : PV} {st1 : St}

theorem flat_get {α : Type} (l : List α) : ∀ (n k : Nat), (List.replicate n l).flatten[k]? = if k < n * l.length then l[k % l.length]? else none
  | 0, k => by simp
  | n + 1, k => by
    have ih := flat_get l n (k - l.length)
    have e : (n + 1) * l.length = n * l.length + l.length := Nat.succ_mul _ _
    rw [List.replicate_succ, List.flatten_cons, List.getElem?_append, ih, e]
    by_cases hk : k < l.length
    · have : k < n * l.length + l.length := by omega
      simp only [hk, this, Nat.mod_eq_of_lt hk, if_true]
    · have hm : (k - l.length) % l.length = k % l.length := (Nat.mod_eq_sub_mod (by omega)).symm
      by_cases h2 : k - l.length < n * l.length
      · have : k < n * l.length + l.length := by omega
        simp only [hk, h2, this, if_true, if_false, hm]
      · have : ¬ k < n * l.length + l.length := by omega
        simp only [hk, h2, this, if_false]

theorem sameO_eval {x y : Operand} (h : sameO x y = true) {k : IntKind} {n : Int} (hx : a.eval x = .int k n) : ∃ k', a.eval y = .int k' n := by
  unfold sameO at h
  split at h
  · simp at h; subst h; exact ⟨k, hx⟩
  · simp at h; subst h
    simp only [Act.eval] at hx ⊢
    cases hx
    exact ⟨_, rfl⟩
  · simp at h

theorem mkarr_sound (hE : EnvOk E N) (nm : Names vs (lmap vs ops)) (ho : ops[j]? = some o) (hf : FI N w G st a vs (lmap vs ops)) {t e : TypeId} {l c : Operand} {px : PX} {size : Nat} {z : List PV} (hop : o.op = .makeSlice t l c)
    (hu : P.underlying t = some (.slice e)) (hn : sizeT P e = some size) (hz : zeroT P e = some z) (hsame : sameO l c = true) (hx : cx E vs ops l = some px) {cf : CallF} (hs : hopv cf (.mkarr size (isAggT P e) (P.bytesOf e) z px) st = some (u, st1)) (hk : Goes N w G a st1 u vs ops j o next) : o.wp P a w next Q := by
  simp only [hopv] at hs
  split at hs
  · rename_i n hn0
    split at hs
    · rename_i hc
      obtain ⟨h0, hb, hm⟩ := hc
      simp only [Option.some.injEq, Prod.mk.injEq] at hs
      obtain ⟨rfl, rfl⟩ := hs
      obtain ⟨k, hl⟩ := rdInt_sound hE hx hf hn0
      obtain ⟨k', hcv⟩ := sameO_eval hsame hl
      obtain ⟨i, d, hi, hisz, hs0, hd⟩ := info_underlying hn
      obtain ⟨i2, zv, hi2, hzv, _, hzl, hzR, _⟩ := zeroT_sound (N := N) (w := w) (fix := G.fix) (hp := G.heap) hz
      have : i2 = i := by rw [hi] at hi2; simpa using hi2.symm
      subst this
      subst hisz
      have hzs : zv.cells.size = i2.size := by have := hzR.1; simp at this; omega
      have hby : P.bytesOf e = i2.bytes := by simp [Program.bytesOf, hi]
      rw [hby] at hb
      have hrun := run_make (P := P) w t e i2 zv hu hi hzv k k' n n h0 (Int.le_refl _) hb hm
      refine obj_new (mob := .cells (madeCells zv.cells (n.toNat * i2.size)) e) (v := .slice (some ⟨w.heap.size, 0, none⟩) n.toNat n.toNat) nm ho hf ?_ ?_ (fun G' hG hext => obj_cells hf ?_ ?_ hG hext) hk
      · simp [execOp, hop, hl, hcv, hrun]
      · rintro G' rfl
        refine .rowp _ _ _ _ w.heap.size _ (by simp [GS.more]) (Nat.le_refl _) ⟨e, n.toNat * i2.size, ?_, Nat.le_refl _⟩
        simp only [World.shape?, alloc_heap_new, size_madeCells]
      · intro k c x hc hx
        rw [flat_get] at hx
        have hzlen : z.length = i2.size := by have := hzR.1; simp at this; omega
        rw [hzlen] at hx
        split at hx
        · rename_i hlt
          have hmod : k % i2.size < i2.size := Nat.mod_lt _ (by omega)
          have hc' : c = zv.cells[k % i2.size]! := by
            simp only [madeCells, Array.getElem?_map, Option.map_eq_some_iff] at hc
            obtain ⟨a', ha, rfl⟩ := hc
            have : a' = k := by
              obtain ⟨h1, h2⟩ := Array.getElem?_eq_some_iff.1 ha
              simpa using h2.symm
            rw [this, hzs]
          have hcz : zv.cells[k % i2.size]? = some c := by
            rw [hc']
            have : k % i2.size < zv.cells.size := by omega
            simp [this]
          refine ⟨hzR.2.2 _ c x (by simpa using hcz) hx, hzR.2.1 x (List.mem_of_getElem? hx), ?_⟩
          rintro es rfl
          have hz' := hz
          unfold zeroT at hz'
          simp only [hi, hzv, Option.bind_eq_some_iff] at hz'
          obtain ⟨cs', hcs, hz'⟩ := hz'
          split at hz'
          · simp at hz'; subst hz'
            exact constAll_own hcs _ c es (by simpa using hcz) hx
          · simp at hz'
        · simp at hx
      · have hzlen : z.length = i2.size := by have := hzR.1; simp at this; omega
        rw [size_madeCells]
        simp [List.length_flatten, hzlen]
    · simp at hs
  · simp at hs

theorem newbld_sound (hE : EnvOk E N) (hP : E.P = P) (nm : Names vs (lmap vs ops)) (ho : ops[j]? = some o) (hf : FI N w G st a vs (lmap vs ops)) {t : TypeId} (hop : o.op = .alloc t) (hb : E.bT = some t) {cf : CallF}
    (hs : hopv cf .newbld st = some (u, st1)) (hk : Goes N w G a st1 u vs ops j o next) : o.wp P a w next Q := by
  simp only [hopv, Option.some.injEq, Prod.mk.injEq] at hs
  obtain ⟨rfl, rfl⟩ := hs
  obtain ⟨h1, i, h2, h3⟩ := hE.bt t hb
  rw [hP] at h2
  refine obj_new (mob := .cells #[.pointer none, .slice none 0 0] t) (v := .pointer (some ⟨w.heap.size, 0, none⟩)) nm ho hf ?_ ?_ (fun G' hG hext => ?_) hk
  · simp [execOp, hop, Instr.alloc, zeroValue, typeInfo, h2, h3, newVar, newRow, Value.cells]
  · rintro G' rfl
    exact .ptr _ _ w.heap.size (by simp [GS.more])
  · subst hG
    refine ⟨?_, .pointer none, .slice none 0 0, by rw [h1]; exact alloc_heap_new, .inl rfl, .inl ⟨rfl, rfl⟩⟩
    intro o h
    have := hf.fixlt _ _ h
    omega

theorem range_sound (hE : EnvOk E N) (nm : Names vs (lmap vs ops)) (ho : ops[j]? = some o) (hf : FI N w G st a vs (lmap vs ops)) {t : TypeId} {x : Operand} {px : PX} (hop : o.op = .range t x)
    (hu : P.underlying t = some .string) (hx : cx E vs ops x = some px) {cf : CallF} (hs : hopv cf (.range px) st = some (u, st1)) (hk : Goes N w G a st1 u vs ops j o next) : o.wp P a w next Q := by
  simp only [hopv] at hs
  split at hs
  · rename_i s hp
    simp only [Option.some.injEq, Prod.mk.injEq] at hs
    obtain ⟨rfl, rfl⟩ := hs
    have h := (rd_sound hE hx hf hp).1
    generalize hv : a.eval x = v at h
    cases h with
    | str s =>
      refine obj_new (mob := .stringIter s 0) (v := .pointer (some ⟨w.heap.size, 0, none⟩)) nm ho hf ?_ ?_ (fun G' hG hext => ?_) hk
      · have := run_range_string (P := P) w t s hu
        simp only [execOp, hop, hv, Sem.run_bind, Sem.run_map, this, Result.andThen_ok, Sem.run_pure]
        rfl
      · rintro G' rfl
        exact .ptr _ _ w.heap.size (by simp [GS.more])
      · subst hG
        refine ⟨?_, s, alloc_heap_new, rfl⟩
        intro o h
        have := hf.fixlt _ _ h
        omega
  · simp at hs

/-- An object of the heap turns, and nothing else. -/
theorem obj_turn (nm : Names vs (lmap vs ops)) (ho : ops[j]? = some o) (hf : FI N w G st a vs (lmap vs ops)) {n b : Nat} {ob ob' : PObj} {mob : Obj} {v : Value} (hob : st.heap[n]? = some ob) (hb : G.heap n = some b) (how : G.ow b = some (.hobj n))
    (hnf : ∀ o, ¬ G.fix b o) (hrun : (execOp a.eval o).run P w = .ok (.value v) { w with heap := w.heap.setIfInBounds b mob }) (hnc : w.shape? b = none)
    (hR : ObjR N { w with heap := w.heap.setIfInBounds b mob } G n b ob')
    (hv : SR N { w with heap := w.heap.setIfInBounds b mob } G (keyD (cDst vs o.dst) j) v u)
    (hk : Goes N w G a (hset st n ob') u vs ops j o next) : o.wp P a w next Q := by
  unfold Oper.wp
  rw [hrun]
  let w' : World := { w with heap := w.heap.setIfInBounds b mob }
  have hblt : b < w.heap.size := hf.owlt _ _ how
  have hother : ∀ x, x ≠ b → w'.heap[x]? = w.heap[x]? := fun x hx => by
    simp only [w', Array.getElem?_setIfInBounds]; rw [if_neg (by omega)]
  have hext : Ext w G w' G := by
    refine ⟨rfl, rfl, rfl, by simp [w'], fun x _ hxo => hother x (by rintro rfl; rw [how] at hxo; simp at hxo), ?_, fun _ _ h => .inl h, fun _ h => .inr h, fun _ _ h => h, .one b (fun k _ hk => hother k hk) (fun s hx => by rw [hnc] at hx; simp at hx)⟩
    intro x o' hfx
    have hxb : x ≠ b := by rintro rfl; exact hnf _ hfx
    refine ⟨hfx, ?_⟩
    simp only [World.cell?, hother x hxb]
  have hkeep : Keep (fun k => k = .hobj n) w G w' G := by
    refine ⟨?_, fun _ _ h => h⟩
    intro x k hx hnk
    have hxb : x ≠ b := by rintro rfl; rw [how] at hx; simp at hx; exact hnk hx.symm
    exact ⟨hx, hother x hxb, fun _ h => h⟩
  have hf1 : FI N w' G (hset st n ob') a vs (lmap vs ops) := by
    refine ⟨hf.len, fun i t' u' h1 h2 => (hf.var i t' u' h1 h2).keep hext hkeep (by simp) (by simp), fun i t' u' h1 h2 => (hf.loc i t' u' h1 h2).keep hext hkeep (by simp) (by simp), hf.tv, hf.tl, hf.defers, hf.gen, ?_, ?_, ?_, ?_⟩
    · intro b' k hb'; simpa [w'] using hf.owlt _ _ hb'
    · intro b' k hb'; simpa [w'] using hf.fixlt _ _ hb'
    · exact hf.heap.keepBut hext hkeep (fun m k hne => ⟨by simp; omega, by simp⟩) (fun _ => .inr ⟨b, hb, how, hR⟩)
    · intro m b' h; have := hf.hdom _ _ h; simpa [hset] using this
  exact hk _ w' G (hf1.put nm (cDst_ok ho) hv) hext (put_size _ _ _)

theorem next_sound (hE : EnvOk E N) (nm : Names vs (lmap vs ops)) (ho : ops[j]? = some o) (hf : FI N w G st a vs (lmap vs ops)) {x : Operand} {px : PX} (hop : o.op = .next x true)
    (hx : cx E vs ops x = some px) {cf : CallF} (hs : hopv cf (.next px) st = some (u, st1)) (hk : Goes N w G a st1 u vs ops j o next) : o.wp P a w next Q := by
  simp only [hopv] at hs
  split at hs
  · rename_i n hp
    have h := (rd_sound hE hx hf hp).1
    split at hs
    · rename_i s pos hob
      generalize hv : a.eval x = v at h
      cases h with
      | ptr _ _ b hb =>
        rcases hf.heap.1 n _ hob with e | ⟨b', h1, h2, h3, s', h4, h5⟩
        · simp at e
        have : b' = b := by rw [hb] at h1; simpa using h1.symm
        subst this
        subst h5
        have hsz : s'.data.toList.length = s'.size := Array.length_toList
        have hs' : (⟨s'.data.toList.toArray⟩ : ByteArray) = s' := by cases s'; simp
        rw [hsz, hs'] at hs
        have hblt : b' < w.heap.size := hf.owlt _ _ h2
        split at hs
        · rename_i hlt
          simp only [Option.some.injEq, Prod.mk.injEq] at hs
          obtain ⟨rfl, rfl⟩ := hs
          refine obj_turn (ob' := .siter s'.data.toList (pos + (Utf8.decode s' pos).2)) (mob := .stringIter s' (pos + (Utf8.decode s' pos).2)) (v := .tuple #[.bool true, goInt pos, .int .i32 (Utf8.decode s' pos).1]) nm ho hf hob hb h2 h3 ?_ (by simp [World.shape?, h4]) ⟨h3, s', ?_, rfl⟩ (SR.of_pure ?_ rfl) hk
          · simp [execOp, hop, hv, Instr.next, getObj, setObj, Sem.run, Result.andThen, h4, hlt, goInt]
          · simp [hblt]
          · refine .tuple _ _ rfl ?_
            intro i c p hc hp
            match i with
            | 0 => simp at hc hp; subst hc hp; exact .bool _
            | 1 => simp at hc hp; subst hc hp; exact .int _ _
            | 2 => simp at hc hp; subst hc hp; exact .int _ _
            | n + 3 => simp at hc
        · rename_i hlt
          simp only [Option.some.injEq, Prod.mk.injEq] at hs
          obtain ⟨rfl, rfl⟩ := hs
          refine wp_value (v := .tuple #[.bool false]) nm ho hf ?_ (SR.of_pure ?_ rfl) hk
          · simp [execOp, hop, hv, Instr.next, getObj, Sem.run, Result.andThen, h4, hlt]
          · refine .tuple _ _ rfl ?_
            intro i c p hc hp
            match i with
            | 0 => simp at hc hp; subst hc hp; exact .bool _
            | n + 1 => simp at hc
    · simp at hs
  · simp at hs

theorem s2b_sound (hE : EnvOk E N) (nm : Names vs (lmap vs ops)) (ho : ops[j]? = some o) (hf : FI N w G st a vs (lmap vs ops)) {src dst e : TypeId} {x : Operand} {px : PX} (hop : o.op = .convert src dst x) (hdst : cDst vs o.dst ≠ .n)
    (hs1 : P.underlying src = some .string) (hd : P.underlying dst = some (.slice e)) (he : P.underlying e = some (.int .u8)) (hx : cx E vs ops x = some px) {cf : CallF} (hs : opv cf (.s2b px) st = some (u, st1)) (hk : Goes N w G a st1 u vs ops j o next) : o.wp P a w next Q := by
  simp only [opv] at hs
  split at hs
  · rename_i s hp
    split at hs
    · rename_i hlen
      simp only [Option.some.injEq, Prod.mk.injEq] at hs
      obtain ⟨rfl, rfl⟩ := hs
      have h := (rd_sound hE hx hf hp).1
      generalize hv : a.eval x = v at h
      cases h with
      | str s =>
        have hsz : s.data.toList.length = s.size := Array.length_toList
        have hrun := Lib.run_convert_string_bytes (P := P) w src dst e s hs1 hd he
        unfold Oper.wp
        have hrun' : (execOp a.eval o).run P w = .ok (.value (.slice (some ⟨w.heap.size, 0, none⟩) s.size (grownCap w s.size 0 e))) (Lib.bytesWorld w e s) := by
          simp [execOp, hop, hv, hrun]
        rw [hrun']
        have hnc : s.size ≤ grownCap w s.size 0 e := grownCap_ge w s.size 0 e
        let G' : GS := { G with fix := fun b o => G.fix b o ∨ (b = w.heap.size ∧ o < s.size), ow := fun b => if b = w.heap.size then some (keyD (cDst vs o.dst) j) else G.ow b }
        have hsize := Lib.bytesWorld_size w e s
        have hext : Ext w G (Lib.bytesWorld w e s) G' := by
          refine ⟨?_, ?_, ?_, by omega, fun b hb _ => Lib.bytesWorld_at_old w e s b hb, fun b o h => ⟨.inl h, Lib.bytesWorld_old w e s ⟨b, o, none⟩ (hf.fixlt _ _ h)⟩, ?_, ?_, fun _ _ h => h, .same fun k hk => Lib.bytesWorld_at_old w e s k hk⟩
          · simp [Lib.bytesWorld, World.freeze, World.alloc, World.drew, -World.alloc_eq, -World.drew_eq]
          · simp [Lib.bytesWorld, World.freeze, World.alloc, World.drew, -World.alloc_eq, -World.drew_eq]
          · simp [Lib.bytesWorld, World.freeze, World.alloc, World.drew, -World.alloc_eq, -World.drew_eq]
          · rintro b o (h | h)
            · exact .inl h
            · exact .inr (.inl (by omega))
          · intro b hb
            simp only [G'] at hb
            split at hb
            · exact .inl (by omega)
            · exact .inr hb
        have hkeep : Keep (fun k => k = keyD (cDst vs o.dst) j) w G (Lib.bytesWorld w e s) G' := by
          refine ⟨?_, fun _ _ h => h⟩
          intro b k hb _
          have hlt := hf.owlt _ _ hb
          refine ⟨?_, Lib.bytesWorld_at_old w e s b hlt, ?_⟩
          · simp only [G']; rw [if_neg (by omega)]; exact hb
          · rintro o (h | h)
            · exact h
            · omega
        have hR := ofBytes_R (N := N) (w := Lib.bytesWorld w e s) G'.fix G'.heap s
        have hl : (ofBytes s.data.toList).length = s.size := by rw [ofBytes_len]; exact hsz
        have how' : ∀ b k, G'.ow b = some k → b < (Lib.bytesWorld w e s).heap.size := by
          intro b k hb
          simp only [G'] at hb
          split at hb
          · omega
          · have := hf.owlt _ _ hb; omega
        have hfx' : ∀ b o, G'.fix b o → b < (Lib.bytesWorld w e s).heap.size := by
          rintro b o (h | h)
          · have := hf.fixlt _ _ h; omega
          · omega
        have hvr : ∀ own, VR N (Lib.bytesWorld w e s) G'.fix G'.heap (.slice (some ⟨w.heap.size, 0, none⟩) s.size (grownCap w s.size 0 e)) (.list own (ofBytes s.data.toList)) := by
          intro own
          have hm := list_mk (own := own) (b := w.heap.size) (off := 0) (cap := grownCap w s.size 0 e) hR (by rw [hl]; exact hnc) ?_
          · rw [hl] at hm; exact hm
          · intro k u' hu
            have hk : k < s.size := by have := (List.getElem?_eq_some_iff.1 hu).1; rw [byteCells_length] at this; exact this
            rw [Nat.zero_add]
            refine ⟨?_, .inr ⟨rfl, hk⟩⟩
            rw [Lib.bytesWorld_cell w e s k hk]
            simp only [byteCells, List.getElem?_map, Option.map_eq_some_iff] at hu
            obtain ⟨b, hb, rfl⟩ := hu
            simp [List.getD, hb]
        refine hk _ _ G' (hf.extDst nm (cDst_ok ho) hdst hext hkeep (fun g b h => hf.gen g b h) how' hfx' rfl ?_) hext (put_size _ _ _)
        cases he0 : s.data.toList.isEmpty with
        | true => exact SR.of_pure (hvr false) rfl
        | false =>
          refine ⟨hvr true, ?_⟩
          have h0 : 0 < s.size := by
            rw [← hsz]
            cases hx : s.data.toList with
            | nil => rw [hx] at he0; simp at he0
            | cons => simp
          refine .inr ⟨by simp [G'], 1, Lib.bytesCells w e s, e, hR.sz, ⟨_, Lib.bytesWorld_at_new w e s, fun o ho h => by simp at h; omega⟩, ?_, h0, ?_⟩
          · have : s.data.size = s.size := rfl
            simp only [Lib.bytesCells, Array.size_append, Array.size_map, Array.size_replicate]
            omega
          · rintro o' ho' (h | h)
            · have := hf.fixlt _ _ h; simp at this
            · simp at ho'; omega
    · simp at hs
  · simp at hs

/-! ### Appends to rows of the heap -/

theorem flat_cells {size : Nat} : ∀ {xs : List PV}, (∀ e ∈ xs, e.cells.length = size) → (xs.flatMap PV.cells).length = xs.length * size ∧ ∀ (i : Nat) (e : PV), xs[i]? = some e → ∀ k, k < size → (xs.flatMap PV.cells)[i * size + k]? = e.cells[k]?
  | [], _ => by simp
  | x :: xs, h => by
    obtain ⟨h1, h2⟩ := flat_cells (xs := xs) (fun e he => h e (List.mem_cons_of_mem _ he))
    have hx := h x (List.mem_cons_self ..)
    refine ⟨by simp only [List.flatMap_cons, List.length_append, h1, hx, List.length_cons, Nat.add_mul, Nat.one_mul]; omega, ?_⟩
    intro i e he k hk
    rw [List.flatMap_cons]
    cases i with
    | zero =>
      simp at he; subst he
      rw [Nat.zero_mul, Nat.zero_add, List.getElem?_append_left (by omega)]
    | succ i =>
      rw [Nat.add_mul, Nat.one_mul, List.getElem?_append_right (by omega), hx]
      have := h2 i e (by simpa using he) k hk
      rw [show i * size + size + k - size = i * size + k by omega]
      exact this

/-- The cells of a row's elements, one behind the other. -/
theorem ListR.flats {fix : Nat → Nat → Prop} {hp : Nat → Option Nat} {size : Nat} {news : List Value} {xs : List PV} (h : ListR N w fix hp size news xs) (hs : size ≠ 0) :
    news.length = ((xs.flatMap PV.cells).map dem).length ∧ ∀ (k : Nat) (c : Value) (x : PV), news[k]? = some c → ((xs.flatMap PV.cells).map dem)[k]? = some x → VR N w fix hp c x ∧ x.flat = true ∧ ∀ es, x ≠ .list true es := by
  obtain ⟨h1, h2⟩ := flat_cells h.sz
  refine ⟨by rw [List.length_map, h1, h.len], ?_⟩
  intro k c x hc hx
  simp only [List.getElem?_map, Option.map_eq_some_iff] at hx
  obtain ⟨y, hy, rfl⟩ := hx
  have hk : k < xs.length * size := by rw [← h1]; exact (List.getElem?_eq_some_iff.1 hy).1
  have hi : k / size < xs.length := by rw [Nat.div_lt_iff_lt_mul (by omega)]; exact hk
  have hm : k % size < size := Nat.mod_lt _ (by omega)
  have he : k / size * size + k % size = k := by rw [Nat.mul_comm]; exact Nat.div_add_mod k size
  have h3 := h2 (k / size) xs[k / size] (List.getElem?_eq_getElem hi) (k % size) hm
  rw [he, hy] at h3
  refine ⟨(h.vr (k / size) _ (List.getElem?_eq_getElem hi) (k % size) c y (by rw [he]; exact hc) h3.symm).dem, ?_, ?_⟩
  · rw [flat_dem]
    exact h.flat _ (List.getElem_mem hi) y (List.mem_of_getElem? h3.symm)
  · intro es e; cases y <;> simp [dem] at e

theorem dem_notOwn (y : PV) (es : List PV) : dem y ≠ .list true es := by intro e; cases y <;> simp [dem] at e

/-- A new block for a row that has outgrown its own. -/
theorem happ_new (nm : Names vs (lmap vs ops)) (ho : ops[j]? = some o) (hf : FI N w G st a vs (lmap vs ops)) {heap1 : List PObj} (hh1 : HR N w G heap1) (hlen1 : heap1.length = st.heap.length) {v : Value} {CS : Array Value} {e : TypeId} {ps : List PV} {sz len cap : Nat} {agg : Bool}
    (hrun : (execOp a.eval o).run P w = .ok (.value (.slice (some ⟨w.heap.size, 0, none⟩) len cap)) (w.drew.alloc (.cells CS e))) (hcap : len ≤ cap) (hCS : CS.size = cap * sz) (hps : ps.length ≤ CS.size)
    (hR : ∀ (k : Nat) (c : Value) (x : PV), CS[k]? = some c → ps[k]? = some x → VR N w G.fix G.heap c x ∧ x.flat = true ∧ ∀ es, x ≠ .list true es)
    (hk : Goes N w G a { st with heap := heap1 ++ [.cells ps] } (.rowp st.heap.length sz agg len) vs ops j o next) : o.wp P a w next Q := by
  unfold Oper.wp
  rw [hrun]
  let w' : World := w.drew.alloc (.cells CS e)
  let G' : GS := G.more w.heap.size st.heap.length
  have hext : Ext w G w' G' := by
    refine ⟨rfl, rfl, rfl, by simp [w'], fun b hb _ => alloc_heap_old (w := w.drew) hb, fun b o h => ⟨h, alloc_cell_old (w := w.drew) (hf.fixlt _ _ h)⟩, fun _ _ h => .inl h, ?_, ?_, .same fun k hk => alloc_heap_old (w := w.drew) hk⟩
    · intro b hb
      by_cases hlt : b < w.heap.size
      · refine .inr ?_
        simp only [G', GS.more] at hb
        rw [if_neg (by omega)] at hb
        exact hb
      · exact .inl (by omega)
    · intro n b h
      have := hf.hdom _ _ h
      simp only [G', GS.more]
      rw [if_neg (by omega)]; exact h
  have hkeep : Keep (fun _ => False) w G w' G' := by
    refine ⟨?_, fun _ _ h => h⟩
    intro b k hb _
    have hlt := hf.owlt _ _ hb
    refine ⟨?_, alloc_heap_old (w := w.drew) hlt, fun _ h => h⟩
    simp only [G', GS.more]
    rw [if_neg (by omega)]; exact hb
  have hobj : ObjR N w' G' st.heap.length w.heap.size (.cells ps) := by
    refine ⟨fun o h => by have := hf.fixlt _ _ h; omega, CS, e, alloc_heap_new (w := w.drew), hps, ?_⟩
    intro k c x hc hx
    obtain ⟨h1, h2, h3⟩ := hR k c x hc hx
    refine ⟨h1.ext hext, h2, ?_⟩
    split
    · exact absurd rfl (h3 _)
    · trivial
  have hf1 : FI N w' G' { st with heap := heap1 ++ [.cells ps] } a vs (lmap vs ops) := by
    refine ⟨hf.len, fun i t u h1 h2 => (hf.var i t u h1 h2).keep hext hkeep (fun h => h) (fun _ _ _ h => h), fun j t u h1 h2 => (hf.loc j t u h1 h2).keep hext hkeep (fun h => h) (fun _ _ _ h => h), hf.tv, hf.tl, hf.defers, hf.gen, ?_, ?_, ?_, ?_⟩
    · intro b k hb
      simp only [G', GS.more] at hb
      split at hb
      · simp [w']; omega
      · have := hf.owlt _ _ hb; simp [w']; omega
    · intro b o h
      have := hf.fixlt _ _ h; simp [w']; omega
    · exact hh1.push hext hkeep (fun _ _ _ => ⟨fun h => h, fun h => h⟩) (.inr ⟨w.heap.size, by simp [G', GS.more, hlen1], by simp [G', GS.more, hlen1], by rw [hlen1]; exact hobj⟩)
    · intro n b h
      simp only [G', GS.more] at h
      split at h
      · simp; omega
      · have := hf.hdom _ _ h; simp; omega
  refine hk _ w' G' (hf1.put nm (cDst_ok ho) (SR.of_pure (.rowp _ _ _ _ w.heap.size cap (by simp [G', GS.more]) hcap ⟨e, cap * sz, ?_, Nat.le_refl _⟩) rfl)) hext (put_size _ _ _)
  have h1 : w'.heap[w.heap.size]? = some (.cells CS e) := alloc_heap_new (w := w.drew)
  simp only [World.shape?, h1, hCS]

theorem happ_sound (hE : EnvOk E N) (nm : Names vs (lmap vs ops)) (ho : ops[j]? = some o) (hf : FI N w G st a vs (lmap vs ops)) {ts tx e e' : TypeId} {size : Nat} {z : List PV} {s x : Operand} {ps px : PX}
    (hop : o.op = .call { callee := .builtin .append, args := #[s, x], argTypes := #[ts, tx] }) (hts : P.underlying ts = some (.slice e)) (htx : P.underlying tx = some (.slice e')) (hn : sizeT P e = some size) (hz : zeroT P e = some z)
    (hs' : cx E vs ops s = some ps) (hx : cx E vs ops x = some px) {cf : CallF} (hs : hopv cf (.happ size (isAggT P e) (P.bytesOf e) ps px) st = some (u, st1)) (hk : Goes N w G a st1 u vs ops j o next) : o.wp P a w next Q := by
  obtain ⟨i, d, hi, hisz, hs0, hd⟩ := info_underlying hn
  obtain ⟨i2, zv, hi2, hzv, _, hzl, hzR, _⟩ := zeroT_sound (N := N) (w := w) (fix := G.fix) (hp := G.heap) hz
  have : i2 = i := by rw [hi] at hi2; simpa using hi2.symm
  subst this
  subst hisz
  have hzs : zv.cells.size = i2.size := by have := hzR.1; simp at this; omega
  have hby : P.bytesOf e = i2.bytes := by simp [Program.bytesOf, hi]
  have hop' : ∀ v w', (Builtin.append_ #[ts, tx] o.type #[a.eval s, a.eval x]).run P w = .ok v w' → (execOp a.eval o).run P w = .ok (.value v) w' := by
    intro v w' hr
    simp [execOp, hop, resolve, invoke, builtin, hr]
  -- what is appended
  have src : ∀ {p0 : PV} {xs : List PV}, rd st px = some p0 → asRow p0 = some xs → headOk i2.size xs = true → ∃ news, ListR N w G.fix G.heap i2.size news xs ∧ Src P i2.size tx (a.eval x) xs.length news w := by
    intro p0 xs hrd hrow hh
    have hvx := (rd_sound hE hx hf hrd).1.row hrow
    obtain ⟨news, hRx, hcx⟩ := list_cells hvx hh
    refine ⟨news, hRx, ?_⟩
    rcases hcx with ⟨h1, h2, h3⟩ | ⟨ad, cap, h1, h2, h3⟩ | ⟨b, off, cap, h1, h2, h3⟩
    · rw [h1, h2, h3]; exact Src.ofNil w htx 0
    · rw [h1, h2, h3]; exact Src.ofSlice w htx ad 0 cap [] (by simp) (by simp) (by simp)
    · rw [h1]
      exact Src.ofSlice w htx ⟨b, off, none⟩ xs.length cap news hRx.len (fun j u hu => by rw [addr_add]; exact (h3 j u hu).1) (hRx.one hs0)
  -- a new block
  have grow : ∀ {heap1 : List PObj} {xs oldps : List PV} {news olds : List Value} {base : Option Addr} {len cap : Nat}, HR N w G heap1 → heap1.length = st.heap.length → ListR N w G.fix G.heap i2.size news xs → Src P i2.size tx (a.eval x) xs.length news w → a.eval s = .slice base len cap →
      (Builtin.firstCells i2.size len (.slice base len cap)).run P w.drew = .ok olds.toArray w.drew → olds.length = len * i2.size → oldps.length = olds.length → (∀ (k : Nat) (c : Value) (y : PV), olds[k]? = some c → oldps[k]? = some y → VR N w G.fix G.heap c y ∧ y.flat = true ∧ ∀ es, y ≠ .list true es) →
      cap < len + xs.length → len + xs.length ≤ 2147483648 → i2.bytes ≤ 16384 →
      Goes N w G a { st with heap := heap1 ++ [.cells (oldps ++ (xs.flatMap PV.cells).map dem)] } (.rowp st.heap.length i2.size (isAggT P e) (len + xs.length)) vs ops j o next → o.wp P a w next Q := by
    intro heap1 xs oldps news olds base len cap hh1 hl1 hRx hsrc hv hold hol hop1 hoR hcap hb1 hb2 hk
    have hbytes : (len + xs.length) * i2.bytes ≤ 140737488355328 := Nat.le_trans (Nat.mul_le_mul hb1 hb2) (by decide)
    have hrun := run_append_grow_src (P := P) w ts tx o.type e i2 zv hts hi hzv base len cap olds hold (a.eval x) xs.length news hsrc hcap (by omega) (growslice_fits hcap hbytes)
    rw [← hv] at hrun
    obtain ⟨hfl, hfR⟩ := hRx.flats hs0
    have hnc := grownCap_ge w (len + xs.length) cap e
    refine happ_new (v := undef) (sz := i2.size) (cap := grownCap w (len + xs.length) cap e) nm ho hf hh1 hl1 (hop' _ _ hrun) hnc ?_ ?_ ?_ hk
    · simp only [Array.size_append, List.size_toArray, size_zeroCells, hzs, hol, hRx.len, List.length_append]
      rw [Nat.sub_mul, Nat.add_mul]
      have : (len + xs.length) * i2.size ≤ grownCap w (len + xs.length) cap e * i2.size := Nat.mul_le_mul_right _ hnc
      rw [Nat.add_mul] at this
      omega
    · simp only [Array.size_append, List.size_toArray, List.length_append, hop1]
      omega
    · intro k c y hc hy
      by_cases hk1 : k < olds.length
      · rw [List.getElem?_append_left (by omega)] at hy
        rw [Array.getElem?_append_left (by simp; omega)] at hc
        simp only [List.getElem?_toArray] at hc
        rw [List.getElem?_append_left hk1] at hc
        exact hoR k c y hc hy
      · rw [List.getElem?_append_right (by omega)] at hy
        have hlt : k - olds.length < news.length := by
          rw [hfl, ← hop1]; exact (List.getElem?_eq_some_iff.1 hy).1
        rw [Array.getElem?_append_left (by simp; omega)] at hc
        simp only [List.getElem?_toArray] at hc
        rw [List.getElem?_append_right (by omega)] at hc
        rw [hop1] at hy
        exact hfR _ c y hc hy
  simp only [hopv] at hs
  rw [hby] at hs
  split at hs
  · rename_i xs n sz ag len hrd0 hraw
    simp only [Option.bind_eq_some_iff] at hrd0
    obtain ⟨p0, hrd, hrow⟩ := hrd0
    split at hs
    · rename_i cs hob
      split at hs
      · rename_i hc
        obtain ⟨rfl, rfl, hcl, hh2, hb1, hb2⟩ := hc
        simp only [Option.some.injEq, Prod.mk.injEq] at hs
        obtain ⟨rfl, rfl⟩ := hs
        obtain ⟨news, hRx, hsrc⟩ := src hrd hrow hh2
        have hvs := ((raw_sound hE hs' hf hraw).read (r := .rowp n i2.size (isAggT P e) len) rfl).1
        generalize hv : a.eval s = v at hvs
        cases hvs with
        | rowp _ _ _ _ b cap hb hcap hsh =>
          obtain ⟨T', m, hsh1, hsh2⟩ := hsh
          obtain ⟨ho1, ho2, cv, T, hh, hl, hcr⟩ := obj_open hf (show hget st n = some cs by simp [hget, hob]) hb
          have hm : m = cv.size := by simp only [World.shape?, hh, Option.some.injEq, Prod.mk.injEq] at hsh1; exact hsh1.2.symm
          subst hm
          have holdR : ∀ (k : Nat) (c : Value) (y : PV), (cv.toList.take (len * i2.size))[k]? = some c → (cs.map dem)[k]? = some y → VR N w G.fix G.heap c y ∧ y.flat = true ∧ ∀ es, y ≠ .list true es := by
            intro k c y hc hy
            simp only [List.getElem?_map, Option.map_eq_some_iff] at hy
            obtain ⟨y0, hy0, rfl⟩ := hy
            rw [List.getElem?_take] at hc
            split at hc
            · have := hcr k c y0 (by simpa using hc) hy0
              exact ⟨this.1.dem, by rw [flat_dem]; exact this.2.1, dem_notOwn y0⟩
            · simp at hc
          have hol : (cv.toList.take (len * i2.size)).length = len * i2.size := by simp; omega
          have hcells : ∀ (k : Nat) (u : Value), (cv.toList.take (len * i2.size))[k]? = some u → w.cell? ⟨b, 0 + k, none⟩ = some u := by
            intro k u hu
            rw [List.getElem?_take] at hu
            split at hu
            · simp only [World.cell?, hh, Nat.zero_add]; simpa using hu
            · simp at hu
          by_cases hgrow : cap < len + xs.length
          · refine grow (heap1 := st.heap.set n .gone) ?_ (by simp) hRx hsrc hv (olds := cv.toList.take (len * i2.size)) ?_ hol (by rw [List.length_map, hcl, hol]) holdR hgrow hb1 hb2 hk
            · exact hf.heap.keepBut (K := fun _ => False) (Ext.refl _ _) ⟨fun _ _ h _ => ⟨h, rfl, fun _ h => h⟩, fun _ _ h => h⟩ (fun _ _ _ => ⟨fun h => h, fun h => h⟩) (fun _ => .inl rfl)
            · exact run_firstCells_some w.drew _ _ _ _ _ _ hol (fun k u hu => by rw [addr_add]; exact hcells k u hu)
          · -- in place
            have hle : len + xs.length ≤ cap := by omega
            obtain ⟨hfl, hfR⟩ := hRx.flats hs0
            have hfit : len * i2.size + news.length ≤ cv.size := by
              rw [hRx.len]
              have : (len + xs.length) * i2.size ≤ cap * i2.size := Nat.mul_le_mul_right _ hle
              rw [Nat.add_mul] at this; omega
            let NR : Array Value := (cv.toList.take (len * i2.size) ++ news ++ cv.toList.drop (len * i2.size + news.length)).toArray
            have hNRs : NR.size = cv.size := by simp only [NR, List.size_toArray, List.length_append, List.length_take, List.length_drop, Array.length_toList]; omega
            have hrun : (Builtin.append_ #[ts, tx] o.type #[a.eval s, a.eval x]).run P w = .ok (.slice (some ⟨b, 0, none⟩) (len + xs.length) cap) (w.setRow b NR) := by
              have hst := run_storeCells_live P b (len * i2.size) T (0, 0) news 0 cv w hh (fun o _ h => by simp at h) (by simpa using hfit) (hRx.one hs0)
              simp only [Nat.add_zero] at hst
              rw [hv]
              rcases hsrc.kind with ⟨e'', hk'⟩ | hk' <;>
                simp [Builtin.append_, run_underlying hts, run_underlying hk', Go.sizeOf, typeInfo, hi, hsrc.len, hle, hsrc.cells, addr_add, hst, NR]
            have hblt : b < w.heap.size := hf.owlt _ _ ho1
            have hother : ∀ x, x ≠ b → (w.setRow b NR).heap[x]? = w.heap[x]? := fun x hx => setRow_other w b x _ hx
            let G' : GS := { G with heap := fun m => if m = st.heap.length then some b else G.heap m, ow := fun x => if x = b then some (.hobj st.heap.length) else G.ow x }
            have hext : Ext w G (w.setRow b NR) G' := by
              refine ⟨rfl, rfl, rfl, by simp [World.setRow], ?_, ?_, fun _ _ h => .inl h, ?_, ?_, shape_setRow hh _ hNRs⟩
              · intro y _ hyo
                exact hother y (by rintro rfl; rw [ho1] at hyo; simp at hyo)
              · intro y o' hfx
                have hyb : y ≠ b := by rintro rfl; exact ho2 _ hfx
                exact ⟨hfx, by simp only [World.cell?, hother y hyb]⟩
              · intro y hy
                simp only [G'] at hy
                split at hy
                · rename_i hyb; exact .inr (by rw [hyb, ho1]; simp)
                · exact .inr hy
              · intro m y hy
                have := hf.hdom _ _ hy
                simp only [G']
                rw [if_neg (by omega)]; exact hy
            have hkeep : Keep (fun k => k = .hobj n) w G (w.setRow b NR) G' := by
              refine ⟨?_, fun _ _ h => h⟩
              intro y k hy hnk
              have hyb : y ≠ b := by rintro rfl; rw [ho1] at hy; simp at hy; exact hnk hy.symm
              refine ⟨?_, hother y hyb, fun _ h => h⟩
              simp only [G']; rw [if_neg hyb]; exact hy
            have hnlt : n < st.heap.length := (List.getElem?_eq_some_iff.1 hob).1
            have hheap : HR N (w.setRow b NR) G' (st.heap.set n .gone ++ [.cells (cs.map dem ++ (xs.flatMap PV.cells).map dem)]) := by
              refine ⟨?_, hf.heap.2.ext hext⟩
              intro m ob hm
              by_cases hml : m < (st.heap.set n .gone).length
              · rw [List.getElem?_append_left hml, List.getElem?_set] at hm
                split at hm
                · exact .inl (by simpa [hnlt] using hm.symm)
                · rename_i hne
                  rcases hf.heap.1 m ob hm with rfl | ⟨y, h1, h2, h3⟩
                  · exact .inl rfl
                  · exact .inr ⟨y, hext.heap _ _ h1, (hkeep.1 _ _ h2 (by simp; omega)).1, h3.keep h2 hext hkeep (by simp; omega) (by simp)⟩
              · rw [List.getElem?_append_right (by omega)] at hm
                simp only [List.length_set] at hm hml
                have hm0 : m - st.heap.length = 0 := by
                  cases hx : m - st.heap.length with
                  | zero => rfl
                  | succ k => rw [hx] at hm; simp at hm
                rw [hm0] at hm
                simp at hm
                subst hm
                have hm' : m = st.heap.length := by omega
                subst hm'
                refine .inr ⟨b, by simp [G'], by simp [G'], fun o' h => ho2 o' h, NR, T, setRow_heap w b cv NR T (0, 0) hh, ?_, ?_⟩
                · simp only [List.length_append]
                  rw [← hfl, List.length_map, hcl, hNRs]; exact hfit
                · intro k c y hc hy
                  have hfin : VR N w G.fix G.heap c y ∧ y.flat = true ∧ ∀ es, y ≠ .list true es := by
                    simp only [NR, List.getElem?_toArray, List.append_assoc] at hc
                    by_cases hk1 : k < len * i2.size
                    · rw [List.getElem?_append_left (by rw [List.length_map, hcl]; exact hk1)] at hy
                      rw [List.getElem?_append_left (by rw [hol]; exact hk1)] at hc
                      exact holdR k c y hc hy
                    · rw [List.getElem?_append_right (by rw [List.length_map, hcl]; omega), List.length_map, hcl] at hy
                      have hlt : k - len * i2.size < news.length := by rw [hfl]; exact (List.getElem?_eq_some_iff.1 hy).1
                      rw [List.getElem?_append_right (by rw [hol]; omega), hol, List.getElem?_append_left hlt] at hc
                      exact hfR _ c y hc hy
                  refine ⟨hfin.1.ext hext, hfin.2.1, ?_⟩
                  split
                  · exact absurd rfl (hfin.2.2 _)
                  · trivial
            unfold Oper.wp
            rw [hop' _ _ hrun]
            have hf1 : FI N (w.setRow b NR) G' { st with heap := st.heap.set n .gone ++ [.cells (cs.map dem ++ (xs.flatMap PV.cells).map dem)] } a vs (lmap vs ops) := by
              refine ⟨hf.len, fun i t u h1 h2 => (hf.var i t u h1 h2).keep hext hkeep (by simp) (by simp), fun j t u h1 h2 => (hf.loc j t u h1 h2).keep hext hkeep (by simp) (by simp), hf.tv, hf.tl, hf.defers, hf.gen, ?_, ?_, hheap, ?_⟩
              · intro y k hy
                simp only [G'] at hy
                split at hy
                · rename_i hyb; simp [World.setRow, hyb, hblt]
                · have := hf.owlt _ _ hy; simpa [World.setRow] using this
              · intro y o' h; have := hf.fixlt _ _ h; simpa [World.setRow] using this
              · intro m y hy
                simp only [G'] at hy
                split at hy
                · simp; omega
                · have := hf.hdom _ _ hy; simp; omega
            refine hk _ _ G' (hf1.put nm (cDst_ok ho) (SR.of_pure (.rowp _ _ _ _ b cap (by simp [G']) hle ⟨T, cv.size, ?_, hsh2⟩) rfl)) hext (put_size _ _ _)
            simp only [World.shape?, setRow_heap w b cv NR T (0, 0) hh, hNRs]
      · simp at hs
    · simp at hs
  · rename_i xs hrd0 hraw
    simp only [Option.bind_eq_some_iff] at hrd0
    obtain ⟨p0, hrd, hrow⟩ := hrd0
    split at hs
    · rename_i hc
      obtain ⟨hx0, hh2, hb1, hb2⟩ := hc
      simp only [Option.some.injEq, Prod.mk.injEq] at hs
      obtain ⟨rfl, rfl⟩ := hs
      obtain ⟨news, hRx, hsrc⟩ := src hrd hrow hh2
      have hpos : 0 < xs.length := List.length_pos_iff.2 hx0
      have hsr := raw_sound hE hs' hf hraw
      obtain ⟨hvr, hroom⟩ : VR N w G.fix G.heap (a.eval s) (.list true []) ∧ Room w G (keyX ps) (a.eval s) [] := hsr
      have hform : ∃ base, a.eval s = .slice base 0 0 := by
        generalize a.eval s = v at hvr hroom
        cases hvr with
        | nils => exact ⟨none, rfl⟩
        | void _ ad cap =>
          rcases hroom with h | ⟨_, _, _, _, _, _, _, h, _⟩
          · subst h; exact ⟨_, rfl⟩
          · simp at h
        | list _ b off len cap sz _ cv hlen hcap _ _ _ _ =>
          simp at hlen; subst hlen
          rcases hroom with h | ⟨_, _, _, _, _, _, _, h, _⟩
          · subst h; exact ⟨_, rfl⟩
          · simp at h
      obtain ⟨base, hv⟩ := hform
      have hold : (Builtin.firstCells i2.size 0 (.slice base 0 0)).run P w.drew = .ok ([] : List Value).toArray w.drew := by
        cases base with
        | none => exact run_firstCells_none w.drew _ _ _ _
        | some ad => exact run_firstCells_some w.drew _ _ _ _ _ [] (by simp) (by simp)
      refine grow (heap1 := st.heap) (oldps := []) hf.heap rfl hRx hsrc hv hold (by simp) rfl (by simp) (by omega) (by omega) hb2 ?_
      simpa using hk
    · simp at hs
  · simp at hs
end
end PI
