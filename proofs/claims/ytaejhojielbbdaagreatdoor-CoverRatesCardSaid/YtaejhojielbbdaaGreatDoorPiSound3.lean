/-
  The pure interpreter is right, 3: arithmetic, comparisons, lengths, slices, aggregates.
-/
import Derived.Test.YtaejhojielbbdaaGreatDoorPiSound2
import Derived.Laws.StructEq
set_option linter.unusedSimpArgs false
set_option linter.unusedVariables false
set_option linter.unusedSectionVars false
namespace PI
open Go
section
variable {E : Env} {N : Nm} {w : World} {G : GS} {st : St} {a : Act} {vs : List Tmp} {ops : List Oper} {P : Program}
variable {o : Oper} {j : Nat} {next : Act → World → Prop} {Q : Exit → Act → World → Prop} {u : PV} {st1 : St}
theorem intBin_sound {op : BinOp} {t : TypeId} {k : IntKind} {x y : Int} (h : intBin op k x y = some u) : ∃ v, (binOp op t (.int k x) (.int k y)).run P w = .ok v w ∧ VR N w G.fix G.heap v u ∧ cp u = some u := by
 cases op <;> simp only [intBin] at h
 case quo =>
  split at h
  ·simp at h
  ·rename_i h0
   simp at h; subst h
   exact ⟨_, by simp [binOp, Op.intDiv, h0], .int _ _, rfl⟩
 case rem =>
  split at h
  ·simp at h
  ·rename_i h0
   simp at h; subst h
   exact ⟨_, by simp [binOp, Op.intDiv, h0], .int _ _, rfl⟩
 all_goals first
  | (simp at h; done)
  | (simp only [Option.some.injEq] at h; subst h
     first
      | exact ⟨_, by simp only [binOp, Op.intArith, ne_eq, not_true_eq_false, if_false]; rfl, .int _ _, rfl⟩
      | exact ⟨_, by simp only [binOp, Op.intBits, ne_eq, not_true_eq_false, if_false]; rfl, .int _ _, rfl⟩
      | exact ⟨_, by simp only [binOp, Op.intCmp, ne_eq, not_true_eq_false, if_false]; rfl, .bool _, rfl⟩)
theorem strBin_sound {op : BinOp} {t : TypeId} {x y : ByteArray} (h : strBin op x.data.toList y.data.toList = some u) :
  ∃ v, (binOp op t (.string x) (.string y)).run P w = .ok v w ∧ VR N w G.fix G.heap v u ∧ cp u = some u := by
 cases op <;> simp only [strBin] at h
 case add =>
  split at h
  ·rename_i hl
   simp only [Option.some.injEq] at h; subst h
   have h1 : ¬ ((x.size + y.size : Nat) : Int) > IntKind.i64.max := by
    have hx : x.data.toList.length = x.size := Array.length_toList
    have hy : y.data.toList.length = y.size := Array.length_toList
    rw [IntKind.max_i64]; omega
   refine ⟨.string (x ++ y), by simp only [binOp, Op.stringOp, if_neg h1]; rfl, ?_, rfl⟩
   have : (x ++ y).data.toList = x.data.toList ++ y.data.toList := by simp
   rw [← this]
   exact .str _
  ·simp at h
 all_goals first
  | (simp at h; done)
  | (simp only [Option.some.injEq] at h; subst h
     exact ⟨_, by simp only [binOp, Op.stringOp, toList_data]; rfl, .bool _, rfl⟩)
theorem shift_sound {op : BinOp} {t : TypeId} {k k' : IntKind} {x y : Int} (hop : op = .shl ∨ op = .shr) (h : binv op (.int k x) (.int k' y) = some u) :
  ∃ v, (binOp op t (.int k x) (.int k' y)).run P w = .ok v w ∧ VR N w G.fix G.heap v u ∧ cp u = some u := by
 rcases hop with rfl | rfl <;> simp only [binv] at h
 ·split at h
  ·simp at h
  ·rename_i h0
   simp only [Option.some.injEq] at h; subst h
   exact ⟨_, by simp only [binOp, Op.shift, if_neg h0]; rfl, .int _ _, rfl⟩
 ·split at h
  ·simp at h
  ·rename_i h0
   simp only [Option.some.injEq] at h; subst h
   exact ⟨_, by simp only [binOp, Op.shift, if_neg h0]; rfl, .int _ _, rfl⟩
theorem binv_sound {op : BinOp} {t : TypeId} {vx vy : Value} {x y : PV} (hx : VR N w G.fix G.heap vx x) (hy : VR N w G.fix G.heap vy y) (h : binv op x y = some u) (ox oy : Operand) :
  ∃ v, (do eqGuard op t ox oy vx vy; binOp op t vx vy : Sem Value).run P w = .ok v w ∧ VR N w G.fix G.heap v u ∧ cp u = some u := by
 have key : (∃ v, (binOp op t vx vy).run P w = .ok v w ∧ VR N w G.fix G.heap v u ∧ cp u = some u) ∧ (eqGuard op t ox oy vx vy).run P w = .ok () w := by
  unfold binv at h
  split at h
  ·rename_i k m k' m'
   cases hx; cases hy
   refine ⟨?_, by cases op <;> simp [eqGuard]⟩
   split at h
   ·exact shift_sound (.inl rfl) (by simpa [binv] using h)
   ·exact shift_sound (.inr rfl) (by simpa [binv] using h)
   ·split at h
    ·subst_vars
     exact intBin_sound h
    ·simp at h
  ·rename_i s s'
   cases hx; cases hy
   exact ⟨strBin_sound h, by cases op <;> simp [eqGuard]⟩
  ·simp at h
 obtain ⟨⟨v, h1, h2, h3⟩, h4⟩ := key
 exact ⟨v, by simp [h4, h1], h2, h3⟩
theorem bin_sound (hE : EnvOk E N) (nm : Names vs (lmap vs ops)) (ho : ops[j]? = some o) (hf : FI N w G st a vs (lmap vs ops)) {op : BinOp} {t t' : TypeId} {x y : Operand} {px py : PX} (hop : o.op = .binOp op t x y t')
  (hx : cx E vs ops x = some px) (hy : cx E vs ops y = some py) {cf : CallF} (hs : opv cf (.bin op px py) st = some (u, st1)) (hk : Goes N w G a st1 u vs ops j o next) : o.wp P a w next Q := by
 simp only [opv] at hs
 split at hs
 ·rename_i p q hp hq
  simp only [Option.map_eq_some_iff, Prod.mk.injEq] at hs
  obtain ⟨r, hr, rfl, rfl⟩ := hs
  obtain ⟨v, h1, h2, h3⟩ := binv_sound (t := t) (P := P) (rd_sound hE hx hf hp).1 (rd_sound hE hy hf hq).1 hr x y
  refine wp_value nm ho hf ?_ (SR.of_pure h2 h3) hk
  simp only [execOp, hop, Sem.run_bind, h1, Result.andThen_ok, Sem.run_pure]
 ·simp at hs
/-! ### Equality by a type -/
theorem peq1_sound {d : Nat} {t : TypeId} {k : EK} {vx vy : Value} {x y : PV} {b : Bool} (hx : VR N w G.fix G.heap vx x) (hy : VR N w G.fix G.heap vy y) (h : peq1 k x y = some b) (ht : ekT P t = some k) :
  (Op.equalIn (d + 1) t vx vy).run P w = .ok b w := by
 unfold ekT at ht
 unfold peq1 at h
 split at h
 ·cases hx; cases hy
  simp only [Option.some.injEq] at h; subst h
  split at ht <;> simp at ht
  exact run_equalIn_bool' w d t _ _ (by assumption)
 ·cases hx; cases hy
  split at h
  ·subst_vars
   simp only [Option.some.injEq] at h; subst h
   split at ht <;> simp at ht
   exact run_equalIn_int w d t _ _ _ _ (by assumption)
  ·simp at h
 ·cases hx; cases hy
  simp only [Option.some.injEq] at h; subst h
  split at ht <;> simp at ht
  rw [run_equalIn_string w d t _ _ (by assumption), toList_data, toList_data]
 ·simp at h
theorem peqs_sound {d : Nat} {cs ds : Array Value} {ps qs : List PV} (hc : CellsR N w G.fix G.heap cs.toList ps) (hd : CellsR N w G.fix G.heap ds.toList qs) : ∀ {fs : List Field} {off : Nat} {ks : List EK} {b : Bool},
  eqFields P fs off = some ks → peqs ks (ps.drop off) (qs.drop off) = some b → (Op.eqFields (d + 1) cs ds fs).run P w = .ok b w
 | [], off, ks, b, hk, h => by
   simp [eqFields] at hk; subst hk
   unfold peqs at h
   split at h <;> simp_all [Op.eqFields]
 | f :: fs, off, ks, b, hk, h => by
   simp only [eqFields] at hk
   split at hk
   ·rename_i hcond
    obtain ⟨h1, h2, h3, h4⟩ := hcond
    simp only [Option.bind_eq_some_iff, Option.map_eq_some_iff] at hk
    obtain ⟨k, hk1, ks', hk2, rfl⟩ := hk
    unfold peqs at h
    split at h
    ·rename_i heq _ _; simp at heq
    ·rename_i k' ks'' x xs y ys hkk hxs hys
     simp only [List.cons.injEq] at hkk
     obtain ⟨rfl, rfl⟩ := hkk
     simp only [Option.bind_eq_some_iff, Option.map_eq_some_iff] at h
     obtain ⟨b1, hb1, b2, hb2, rfl⟩ := h
     have hpo : ps[off]? = some x := by
      have := congrArg List.head? hxs; simpa [List.head?_drop] using this
     have hqo : qs[off]? = some y := by
      have := congrArg List.head? hys; simpa [List.head?_drop] using this
     have hlp : off < cs.size := by have := (List.getElem?_eq_some_iff.1 hpo).1; have := hc.1; simp at this; omega
     have hlq : off < ds.size := by have := (List.getElem?_eq_some_iff.1 hqo).1; have := hd.1; simp at this; omega
     have hpart : ∀ (zs : Array Value) (hz : off < zs.size), (part f.type zs f.offset).run P w = .ok zs[off] w := by
      intro zs hz
      simp [part, run_isAggT h3, h4, h1, hz]
     have hx := hc.2.2 off cs[off] x (by simp [hlp]) hpo
     have hy := hd.2.2 off ds[off] y (by simp [hlq]) hqo
     have hxs' : ps.drop (off + 1) = xs := by have := congrArg List.tail hxs; simpa [List.tail_drop] using this
     have hys' : qs.drop (off + 1) = ys := by have := congrArg List.tail hys; simpa [List.tail_drop] using this
     have ih := peqs_sound (d := d) hc hd (fs := fs) (off := off + 1) hk2 (by rw [hxs', hys']; exact hb2)
     simp only [Op.eqFields, h2, ne_eq, not_false_eq_true, if_true, Sem.run_bind, hpart cs hlp, hpart ds hlq, Result.andThen_ok, peq1_sound hx hy hb1 hk1, Sem.run_ite]
     cases b1 with
     | true => simpa using ih
     | false => simp
    ·simp at h
   ·simp at hk
theorem eq_sound (hE : EnvOk E N) (hP : E.P = P) (nm : Names vs (lmap vs ops)) (ho : ops[j]? = some o) (hf : FI N w G st a vs (lmap vs ops)) {op : BinOp} {t t' : TypeId} {x y : Operand} {px py : PX} {agg : Bool} {ks : List EK} (hop : o.op = .binOp op t x y t')
  (hop2 : op = .eql ∨ op = .neq) (ht : eqT P t = some (some (agg, ks))) (hx : cx E vs ops x = some px) (hy : cx E vs ops y = some py) {cf : CallF} (hs : opv cf (.eq (op == .neq) agg ks px py) st = some (u, st1))
  (hk : Goes N w G a st1 u vs ops j o next) : o.wp P a w next Q := by
 simp only [opv] at hs
 split at hs
 ·rename_i p q hp hq
  simp only [Option.map_eq_some_iff, Prod.mk.injEq] at hs
  obtain ⟨b, hb, rfl, rfl⟩ := hs
  have hx' := (rd_sound hE hx hf hp).1
  have hy' := (rd_sound hE hy hf hq).1
  have key : ∀ vx vy, VR N w G.fix G.heap vx p → VR N w G.fix G.heap vy q → (do eqGuard op t x y vx vy; binOp op t vx vy : Sem Value).run P w = .ok (.bool (if op == .neq then !b else b)) w := by
   intro vx vy hvx hvy
   unfold eqT at ht
   split at ht
   ·simp at ht
   ·simp at ht
   ·rename_i hu
    simp only [Option.some.injEq, Prod.mk.injEq] at ht
    obtain ⟨rfl, rfl⟩ := ht
    simp only [peq, Bool.false_eq_true, if_false] at hb
    have he := peq1_sound (P := P) (d := 9999) (t := t) hvx hvy hb (by simp [ekT, hu])
    have : ∃ c d, p = .bool c ∧ q = .bool d := by
     cases p <;> cases q <;> simp [peq1] at hb
     exact ⟨_, _, rfl, rfl⟩
    obtain ⟨c, d, rfl, rfl⟩ := this
    cases hvx; cases hvy
    rcases hop2 with rfl | rfl <;> simp [eqGuard, binOp, Op.equal, Op.maxDepth, he]
   ·rename_i fs hu
    split at ht
    ·rename_i ks' hks
     split at ht
     ·rename_i hcond
      simp only [Option.some.injEq, Prod.mk.injEq] at ht
      obtain ⟨rfl, rfl⟩ := ht
      simp only [Bool.and_eq_true, Bool.not_eq_true'] at hcond
      simp only [peq, if_true] at hb
      split at hb
      ·obtain ⟨cs, rfl, hc⟩ := CellsR.of_agg hvx
       obtain ⟨ds, rfl, hd⟩ := CellsR.of_agg hvy
       have hfo : P.fieldsOf t = fs := by simp [Program.fieldsOf, hu]
       have h1 := run_equalIn_struct (P := P) w 9999 t cs ds (by rw [hfo]; exact hu) hcond.1
       rw [hfo, peqs_sound hc hd hks (by simpa using hb)] at h1
       rcases hop2 with rfl | rfl
       ·simp only [Sem.run_bind, run_eqGuard_agg w _ t x y cs ds hcond.2, Result.andThen_ok, run_eql_struct, h1]; rfl
       ·simp only [Sem.run_bind, run_eqGuard_agg w _ t x y cs ds hcond.2, Result.andThen_ok, run_neq_struct, h1]; rfl
      ·simp at hb
     ·simp at ht
    ·simp at ht
   ·simp at ht
  refine wp_value nm ho hf ?_ (SR.of_pure (.bool _) rfl) hk
  simp only [execOp, hop, Sem.run_bind, key _ _ hx' hy', Result.andThen_ok, Sem.run_pure]
 ·simp at hs
theorem VR.cp_dem3 {N : Nm} {w : World} {fix : Nat → Nat → Prop} {hp : Nat → Option Nat} {v : Value} {p : PV} (h : VR N w fix hp v p) : cp (PI.dem p) = some (PI.dem p) := by
 cases h <;> rfl
theorem un_sound (hE : EnvOk E N) (nm : Names vs (lmap vs ops)) (ho : ops[j]? = some o) (hf : FI N w G st a vs (lmap vs ops)) {op : UnOp} {t : TypeId} {x : Operand} {px : PX} (hop : o.op = .unOp op t x)
  (hx : cx E vs ops x = some px) {cf : CallF} (hs : opv cf (.un op px) st = some (u, st1)) (hk : Goes N w G a st1 u vs ops j o next) : o.wp P a w next Q := by
 simp only [opv] at hs
 split at hs
 ·rename_i p hp
  simp only [Option.map_eq_some_iff, Prod.mk.injEq] at hs
  obtain ⟨r, hr, rfl, rfl⟩ := hs
  have h := (rd_sound hE hx hf hp).1
  generalize hv : a.eval x = v at h
  unfold unv at hr
  split at hr
  ·cases h
   simp only [Option.some.injEq] at hr; subst hr
   exact wp_value nm ho hf (by simp [execOp, hop, hv, Op.unary]) (SR.of_pure (.bool _) rfl) hk
  ·cases h
   simp only [Option.some.injEq] at hr; subst hr
   exact wp_value nm ho hf (by simp only [execOp, hop, hv, Op.unary, Op.intArith]; rfl) (SR.of_pure (.int _ _) rfl) hk
  ·simp at hr
 ·simp at hs
theorem convInt_sound (hE : EnvOk E N) (nm : Names vs (lmap vs ops)) (ho : ops[j]? = some o) (hf : FI N w G st a vs (lmap vs ops)) {s t : TypeId} {k k' : IntKind} {x : Operand} {px : PX} (hop : o.op = .convert s t x)
  (hu : P.underlying s = some (.int k')) (hu' : P.underlying t = some (.int k)) (hx : cx E vs ops x = some px) {cf : CallF} (hs : opv cf (.convInt k px) st = some (u, st1)) (hk : Goes N w G a st1 u vs ops j o next) : o.wp P a w next Q := by
 simp only [opv, Option.map_eq_some_iff, Prod.mk.injEq] at hs
 obtain ⟨n, hn, rfl, rfl⟩ := hs
 obtain ⟨k1, hv⟩ := rdInt_sound hE hx hf hn
 refine wp_value nm ho hf ?_ (SR.of_pure (.int _ _) rfl) hk
 simp [execOp, hop, hv, convert, run_underlying hu, run_underlying hu', Conv.intToInt]
theorem ifc1_sound (hE : EnvOk E N) (nm : Names vs (lmap vs ops)) (ho : ops[j]? = some o) (hf : FI N w G st a vs (lmap vs ops)) {t : TypeId} {d : TypeDesc} {i : Nat} {x : Operand} {px : PX} (hop : o.op = .makeInterface t x)
  (hu : P.underlying t = some d) (hd : ∀ m, d ≠ .interface m) (hi : idxIn t E.pt 0 = some i) (hx : cx E vs ops x = some px) {cf : CallF} (hs : opv cf (.ifc true (i + 1) px) st = some (u, st1)) (hk : Goes N w G a st1 u vs ops j o next) : o.wp P a w next Q := by
 simp only [opv] at hs
 split at hs
 ·rename_i v _ hp
  simp only [Option.some.injEq, Prod.mk.injEq] at hs
  obtain ⟨rfl, rfl⟩ := hs
  have h := (rd_sound hE hx hf hp).1
  have ht := hE.pt t i hi
  refine wp_value (v := .iface t (a.eval x)) nm ho hf ?_ (SR.of_pure ?_ rfl) hk
  ·have : (Instr.makeInterface t (a.eval x)).run P w = .ok (.iface t (a.eval x)) w := by
    simp only [Instr.makeInterface, Sem.run_bind, run_underlying hu, Result.andThen_ok]
    cases d <;> first | exact absurd rfl (hd _) | rfl
   simp [execOp, hop, this]
  ·rw [← ht]; exact .iface _ _ _ h
 ·rename_i e _; simp at e
 ·simp at hs
theorem ifc0_sound (hE : EnvOk E N) (nm : Names vs (lmap vs ops)) (ho : ops[j]? = some o) (hf : FI N w G st a vs (lmap vs ops)) {t t' : TypeId} {d : TypeDesc} {i : Nat} {x : Operand} {px : PX} (hop : o.op = .typeAssert x t' t false)
  (hu : P.underlying t = some d) (hd : ∀ m, d ≠ .interface m) (hi : idxIn t E.pt 0 = some i) (hx : cx E vs ops x = some px) {cf : CallF} (hs : opv cf (.ifc false (i + 1) px) st = some (u, st1)) (hk : Goes N w G a st1 u vs ops j o next) : o.wp P a w next Q := by
 simp only [opv] at hs
 split at hs
 ·rename_i e _; simp at e
 ·rename_i n v _ hp
  split at hs
  ·rename_i hn
   simp only [Option.some.injEq, Prod.mk.injEq] at hs
   obtain ⟨rfl, rfl⟩ := hs
   have h := (rd_sound hE hx hf hp).1
   have ht := hE.pt t i hi
   generalize hv : a.eval x = z at h
   cases h with
   | iface _ v0 _ h =>
     subst hn
     refine wp_value (v := v0) nm ho hf ?_ (SR.of_pure h.dem h.cp_dem3) hk
     have : (Instr.typeAssert (.iface (N.ty (i + 1)) v0) t' t false).run P w = .ok v0 w := by
      rw [ht]
      simp only [Instr.typeAssert, Sem.run_bind, run_underlying hu, Result.andThen_ok]
      cases d <;> first | exact absurd rfl (hd _) | simp
     simp [execOp, hop, hv, this]
  ·simp at hs
 ·simp at hs
theorem movs_sound (hE : EnvOk E N) (nm : Names vs (lmap vs ops)) (ho : ops[j]? = some o) (hf : FI N w G st a vs (lmap vs ops)) {s t : TypeId} {x : Operand} {px : PX} (hop : o.op = .convert s t x)
  (hu : P.underlying s = some .string) (hu' : P.underlying t = some .string) (hx : cx E vs ops x = some px) {cf : CallF} (hs : opv cf (.movs px) st = some (u, st1)) (hk : Goes N w G a st1 u vs ops j o next) : o.wp P a w next Q := by
 simp only [opv] at hs
 split at hs
 ·rename_i l hp
  simp only [Option.some.injEq, Prod.mk.injEq] at hs
  obtain ⟨rfl, rfl⟩ := hs
  have h := (rd_sound hE hx hf hp).1
  generalize hv : a.eval x = v at h
  cases h
  exact wp_value nm ho hf (by simp [execOp, hop, hv, convert, run_underlying hu, run_underlying hu']) (SR.of_pure (.str _) rfl) hk
 ·simp at hs
theorem extract_sound (hE : EnvOk E N) (nm : Names vs (lmap vs ops)) (ho : ops[j]? = some o) (hf : FI N w G st a vs (lmap vs ops)) {i : Nat} {x : Operand} {px : PX} (hop : o.op = .extract x i)
  (hx : cx E vs ops x = some px) {cf : CallF} (hs : opv cf (.extract i px) st = some (u, st1)) (hk : Goes N w G a st1 u vs ops j o next) : o.wp P a w next Q := by
 simp only [opv] at hs
 split at hs
 ·rename_i ps hp
  simp only [Option.map_eq_some_iff, Option.bind_eq_some_iff, Prod.mk.injEq] at hs
  obtain ⟨r, ⟨p, hp1, hp2⟩, rfl, rfl⟩ := hs
  have h := (rd_sound hE hx hf hp).1
  generalize hv : a.eval x = v at h
  cases h with
  | tuple cs _ hlen hvr =>
    have hi : i < cs.size := by have := (List.getElem?_eq_some_iff.1 hp1).1; omega
    have hvr' := hvr i cs[i] p (by simp [hi]) hp1
    have hd : VR N w G.fix G.heap cs[i] r ∧ cp r = some r := by
     unfold cp at hp2
     split at hp2 <;> simp at hp2 <;> subst hp2
     ·exact ⟨hvr'.dem, rfl⟩
     ·refine ⟨hvr', ?_⟩
      clear hp1
      generalize cs[i] = c at hvr'
      cases hvr' <;> first | rfl | simp_all
    exact wp_value nm ho hf (by simp [execOp, hop, hv, Instr.extract, hi]) (SR.of_pure hd.1 hd.2) hk
 ·simp at hs
theorem len_sound (hE : EnvOk E N) (nm : Names vs (lmap vs ops)) (ho : ops[j]? = some o) (hf : FI N w G st a vs (lmap vs ops)) {t : TypeId} {ts : Array TypeId} {x : Operand} {px : PX} {str : Bool} (hop : o.op = .call { callee := .builtin .len, args := #[x], argTypes := ts })
  (h0 : ts[0]? = some t) (hu : if str then P.underlying t = some .string else ∃ e, P.underlying t = some (.slice e)) (hx : cx E vs ops x = some px) {cf : CallF} (hs : opv cf (.len str px) st = some (u, st1)) (hk : Goes N w G a st1 u vs ops j o next) : o.wp P a w next Q := by
 simp only [opv] at hs
 split at hs
 ·rename_i s hp
  simp only [Option.some.injEq, Prod.mk.injEq] at hs
  obtain ⟨rfl, rfl⟩ := hs
  have h := (rd_sound hE hx hf hp).1
  simp only [if_true] at hu
  generalize hv : a.eval x = v at h
  cases h with
  | str s =>
    have hl : s.data.toList.length = s.size := Array.length_toList
    refine wp_value nm ho hf ?_ (SR.of_pure (.int _ _) rfl) hk
    rw [hl]
    simp only [execOp, hop, resolve, Sem.run_bind, Sem.run_pure, Result.andThen_ok, invoke, builtin, Builtin.len_, h0, List.map_toArray, List.map_cons, List.map_nil, hv, List.getElem?_toArray, List.getElem?_cons_zero, run_underlying hu, goInt]
 ·rename_i b es hp
  simp only [Option.some.injEq, Prod.mk.injEq] at hs
  obtain ⟨rfl, rfl⟩ := hs
  have h := (rd_sound hE hx hf hp).1
  simp only [Bool.false_eq_true, if_false] at hu
  obtain ⟨e, hu'⟩ := hu
  generalize hv : a.eval x = v at h
  cases h with
  | nils =>
    refine wp_value nm ho hf ?_ (SR.of_pure (.int _ _) rfl) hk
    simp [execOp, hop, hv, resolve, invoke, builtin, Builtin.len_, h0, run_underlying hu', goInt]
  | void =>
    refine wp_value nm ho hf ?_ (SR.of_pure (.int _ _) rfl) hk
    simp [execOp, hop, hv, resolve, invoke, builtin, Builtin.len_, h0, run_underlying hu', goInt]
  | list _ b off len cap sz _ cv hlen =>
    refine wp_value nm ho hf ?_ (SR.of_pure (.int _ _) rfl) hk
    simp [execOp, hop, hv, resolve, invoke, builtin, Builtin.len_, h0, run_underlying hu', goInt, hlen]
 ·rename_i m sz agg n hp
  simp only [Option.some.injEq, Prod.mk.injEq] at hs
  obtain ⟨rfl, rfl⟩ := hs
  have h := (rd_sound hE hx hf hp).1
  simp only [Bool.false_eq_true, if_false] at hu
  obtain ⟨e, hu'⟩ := hu
  generalize hv : a.eval x = v at h
  cases h with
  | rowp _ _ _ _ b cap hb hcap hsh =>
    refine wp_value nm ho hf ?_ (SR.of_pure (.int _ _) rfl) hk
    simp [execOp, hop, hv, resolve, invoke, builtin, Builtin.len_, h0, run_underlying hu', goInt]
 ·rename_i m sz agg off n hp
  simp only [Option.some.injEq, Prod.mk.injEq] at hs
  obtain ⟨rfl, rfl⟩ := hs
  have h := (rd_sound hE hx hf hp).1
  simp only [Bool.false_eq_true, if_false] at hu
  obtain ⟨e, hu'⟩ := hu
  generalize hv : a.eval x = v at h
  cases h with
  | rows _ _ _ _ _ b o' cap m' T hb hcap hoo hsh hm' =>
    refine wp_value nm ho hf ?_ (SR.of_pure (.int _ _) rfl) hk
    simp [execOp, hop, hv, resolve, invoke, builtin, Builtin.len_, h0, run_underlying hu', goInt]
 ·rename_i hp
  simp only [Option.some.injEq, Prod.mk.injEq] at hs
  obtain ⟨rfl, rfl⟩ := hs
  have h := (rd_sound hE hx hf hp).1
  simp only [Bool.false_eq_true, if_false] at hu
  obtain ⟨e, hu'⟩ := hu
  generalize hv : a.eval x = v at h
  cases h with
  | nils' =>
    refine wp_value nm ho hf ?_ (SR.of_pure (.int _ _) rfl) hk
    simp [execOp, hop, hv, resolve, invoke, builtin, Builtin.len_, h0, run_underlying hu', goInt]
 ·rename_i hp
  simp only [Option.some.injEq, Prod.mk.injEq] at hs
  obtain ⟨rfl, rfl⟩ := hs
  have h := (rd_sound hE hx hf hp).1
  simp only [Bool.false_eq_true, if_false] at hu
  obtain ⟨e, hu'⟩ := hu
  generalize hv : a.eval x = v at h
  cases h with
  | void' =>
    refine wp_value nm ho hf ?_ (SR.of_pure (.int _ _) rfl) hk
    simp [execOp, hop, hv, resolve, invoke, builtin, Builtin.len_, h0, run_underlying hu', goInt]
 ·simp at hs
theorem cap_sound (hE : EnvOk E N) (nm : Names vs (lmap vs ops)) (ho : ops[j]? = some o) (hf : FI N w G st a vs (lmap vs ops)) {t e : TypeId} {ts : Array TypeId} {x : Operand} {px : PX}
  (hop : o.op = .call { callee := .builtin .cap, args := #[x], argTypes := ts }) (h0 : ts[0]? = some t) (hu : P.underlying t = some (.slice e)) (hx : cx E vs ops x = some px) {cf : CallF} (hs : opv cf (.cap px) st = some (u, st1)) (hk : Goes N w G a st1 u vs ops j o next) : o.wp P a w next Q := by
 simp only [opv] at hs
 split at hs
 ·rename_i hp
  simp only [Option.some.injEq, Prod.mk.injEq] at hs
  obtain ⟨rfl, rfl⟩ := hs
  have h := (rd_sound hE hx hf hp).1
  generalize hv : a.eval x = v at h
  cases h with
  | nils' =>
    refine wp_value nm ho hf ?_ (SR.of_pure (.int _ _) rfl) hk
    simp [execOp, hop, hv, resolve, invoke, builtin, Builtin.cap_, h0, run_underlying hu, goInt]
 ·simp at hs
end
end PI
