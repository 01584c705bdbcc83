/-
  The pure interpreter is right: regions, code.
-/
import Derived.Test.YtaejhojielbbdaaGreatDoorPiCode
set_option linter.unusedSimpArgs false
set_option linter.unusedVariables false
set_option linter.unusedSectionVars false
namespace PI
open Go Go.RowKit
/-- Between two regions. -/
structure BI (N : Nm) (w : World) (G : GS) (st : St) (a : Act) (vs : List Tmp) (nt : Nat) : Prop where
 fi : FI N w G st a vs (fun _ => none)
 size : nt ≤ a.tmps.size
theorem drew_ext (w : World) (G : GS) : Ext w G w.drew G :=
 ⟨rfl, rfl, rfl, Nat.le_refl _, fun _ _ _ => rfl, fun _ _ h => ⟨h, rfl⟩, fun _ _ h => .inl h, fun _ h => .inr h, fun _ _ h => h, ShapeLe.refl w, rfl⟩
theorem drew_keep (w : World) (G : GS) : Keep (fun _ => False) w G w.drew G := ⟨fun _ _ h _ => ⟨h, rfl, fun _ h => h⟩, fun _ _ h => h⟩
section
variable {E : Env} {N : Nm} {vs : List Tmp} {P : Program} {nt : Nat} {Q : Exit → Act → World → Prop}
theorem FI.begin {w : World} {G : GS} {st : St} {a : Act} (h : BI N w G st a vs nt) (lm : Nat → Option Tmp) (hl : ∀ j t, lm j = some t → t < nt) (n : Nat) : FI N w G (begun n st) a vs lm := by
 refine ⟨h.fi.len, h.fi.var, ?_, h.fi.tv, fun j t hj => Nat.lt_of_lt_of_le (hl j t hj) h.size, h.fi.defers, h.fi.gen, h.fi.owlt, h.fi.fixlt, h.fi.heap, h.fi.hdom⟩
 intro j t u _ hu
 simp only [begun, List.getElem?_replicate] at hu
 split at hu
 ·simp at hu; subst hu; trivial
 ·simp at hu
theorem FI.finish {w : World} {G : GS} {st : St} {a : Act} {lm : Nat → Option Tmp} (h : FI N w G st a vs lm) (hs : nt ≤ a.tmps.size) : BI N w G (closed st) a vs nt :=
 ⟨⟨h.len, h.var, (by intro j t u hj; simp at hj), h.tv, (by intro j t hj; simp at hj), h.defers, h.gen, h.owlt, h.fixlt, h.heap, h.hdom⟩, hs⟩
theorem lmap_lt {ops : List Oper} (h : dstsOk nt ops = true) : ∀ j t, lmap vs ops j = some t → t < nt := by
 intro j t hj
 unfold lmap at hj
 split at hj
 ·rename_i o ho
  split at hj
  ·rename_i t' ht'
   split at hj
   ·simp at hj
   ·simp at hj; subst hj
    have := List.all_eq_true.1 h o (List.mem_of_getElem? ho)
    simpa [ht'] using this
  ·simp at hj
 ·simp at hj
theorem noDefer_spec {ops : Array Oper} (h : noDefer ops.toList = true) : ∀ (i : Nat) (o : Oper) c, ops[i]? = some o → o.op ≠ .defer c := by
 intro i o c ho e
 have := List.all_eq_true.1 h o (List.mem_of_getElem? (by simpa using ho))
 rw [e] at this
 simp at this
theorem remOf_all (n : Nat) : remOf n (Array.replicate n false) = List.range' 0 n := by
 rw [← List.range_eq_range']
 unfold remOf
 rw [List.filter_eq_self]
 intro i hi
 have : i < n := by simpa using hi
 simp [Array.getD_eq_getD_getElem?, this]
theorem closed_none (ops : Array Oper) : Closed ops (Array.replicate ops.size false) := by
 intro k o ho hkl
 have : k < ops.size := (Array.getElem?_eq_some_iff.1 ho).1
 simp [Array.getD_eq_getD_getElem?, this] at hkl
variable {L : Nat → Option PFunc} {r : Option Nat}
/-- A region, and what follows it while its places are at hand. -/
theorem region_sound (hF : FnsOK N P L) (hE : EnvOk E N) (hP : E.P = P) (hmix : P.follows .mixedOrders = true) (hnd : vs.Nodup) {cf : CallF} (hcf : CallOK N P cf) (hcL : ∀ k args h r, cf k args h = some r → ∃ f, L k = some f)
  {id : Nat} {ops : Array Oper} {d : Bool} {pos : List PO} (hc : compR E nt vs ops d = some pos) {w : World} {G : GS} {st st' : St} {a : Act} (hs : execReg cf pos st = some st') (hb : BI N w G st a vs nt) (hQ : ¬ LetsOut Q)
  (hk : ∀ a' w' G', FI N w' G' st' a' vs (lmap vs ops.toList) → Ext w G w' G' → nt ≤ a'.tmps.size → Q .normal a' w') : (Code.region id ops d).wpIn (W r) 0 P Q a w := by
 unfold compR at hc
 split at hc
 ·rename_i hcond
  simp only [Bool.and_eq_true] at hcond
  simp only [Option.bind_eq_some_iff] at hc
  obtain ⟨pos', hpos, hc⟩ := hc
  have nm := names_ok hnd hcond.1.1
  have hlen : ops.size = pos'.length := by have := (cOpers_get hpos).1; simpa using this
  have hfi := FI.begin hb (lmap vs ops.toList) (lmap_lt hcond.1.2) pos'.length
  have hk' : Next1 N w G a st' vs ops.toList (Q .normal) := fun a' w' G' h1 h2 h3 => hk a' w' G' h1 h2 (by rw [h3]; exact hb.size)
  split at hc
  ·rename_i hord
   split at hc
   ·rename_i hed
    simp at hc; subst hc
    have hnd := noDefer_spec hcond.2
    have hd : d = true := by simp only [Bool.and_eq_true] at hord; exact hord.1
    subst hd
    rw [execReg, if_pos (show isAny _ = true from rfl)] at hs
    simp only [execA] at hs
    refine wpIn_region_draw fun t => wpOpsIn_of hnd hQ ?_
    have hfd : FI N w.drew G (begun pos'.length st) a vs (lmap vs ops.toList) := hfi.ext (drew_ext w G) (drew_keep w G) hfi.gen hfi.owlt hfi.fixlt
    simp only [Region.schedule, hmix, Bool.true_or, if_true]
    refine wpAny_sound ops.size t _ a _ ?_
    have hrm : remOf ops.size (Array.replicate ops.size false) = List.range pos'.length := by rw [remOf_all, hlen]; simp [List.range_eq_range']
    refine any_sound2 hF hE hP nm hcf hcL hpos hed ops.size (by simp) (by rw [hrm]; simp [hlen]) (closed_none ops) (by rw [hrm, List.length_range]; exact hs) hfd (hk'.trans (drew_ext w G) rfl)
   ·simp at hc
  ·rename_i hord
   split at hc
   ·simp at hc
   rename_i hany
   simp at hc; subst hc
   have hs : execOps cf pos' st = some st' := by rw [execReg, if_neg hany] at hs; exact hs
   have hx : execL cf pos' (List.range' 0 pos'.length) (begun pos'.length st) = some st' := by
    rw [← execFrom_L (all := pos') (by simp)]; exact hs
   have hnd := noDefer_spec hcond.2
   cases d with
   | false =>
     refine wpIn_region (wpOpsIn_of hnd hQ ?_)
     have : List.range ops.size = List.range' 0 pos'.length := by rw [hlen, List.range_eq_range']
     rw [this]
     exact opsL_sound hF hE hP nm hcf hcL hpos hx hfi hk'
   | true =>
     have hord' : orderOk ops pos' = true := by simpa using hord
     refine wpIn_region_draw fun t => wpOpsIn_of hnd hQ ?_
     have hfd : FI N w.drew G (begun pos'.length st) a vs (lmap vs ops.toList) := hfi.ext (drew_ext w G) (drew_keep w G) hfi.gen hfi.owlt hfi.fixlt
     simp only [Region.schedule, hmix, Bool.true_or, if_true]
     refine wpAny_sound ops.size t _ a _ ?_
     refine any_sound hF hE hP nm hcf hcL hpos hord' ops.size (by simp) (by rw [remOf_all]; simp) (closed_none ops) (by rw [remOf_all, hlen]; exact hx) hfd (hk'.trans (drew_ext w G) rfl)
 ·simp at hc
/-- The operations of a region in which a call may panic, in any order. -/
theorem opsB_sound (hF : FnsOK N P L) (hE : EnvOk E N) (hP : E.P = P) {ops : Array Oper} (nm : Names vs (lmap vs ops.toList)) {cf : CallF} (hcf : CallOK N P cf) {ob : OutF} (hob : OutOK N P ob) (hro : RoundOK N P ob)
  (hcL : ∀ k args h x, cf k args h = some x → ∃ f, L k = some f) (hoL : ∀ k args h x, ob k args h = some x → ∃ f, L k = some f) (hd : ∀ (i : Nat) (o : Oper) c, ops[i]? = some o → o.op ≠ .defer c) {pos : List PO} (hpos : ∀ (i : Nat) (o : Oper), ops.toList[i]? = some o → ∃ p, pos[i]? = some p ∧ cOperB E vs ops.toList o = some p) (hlen : ops.size = pos.length)
  {res : Option PV} {st' : St} (hQ : ¬ LetsOut Q) :
  ∀ {l : List Nat} {st : St} {w : World} {G : GS} {a : Act}, brunL cf ob pos l st = some (res, st') → FI N w G st a vs (lmap vs ops.toList) → (res = none → Next1 N w G a st' vs ops.toList (Q .normal)) →
    (∀ p, res = some p → ∀ a' w' G' v, a'.tmps.size = a.tmps.size → VR N w' G'.fix G'.heap v p → Ext w G w' G' → FI N w' G' st' a' vs (lmap vs ops.toList) → Q (.panic [{ v, recovered := false }]) a' w') → wpOpsIn (W r) 0 P ops Q l a w
 | [], st, w, G, a, h, hf, hk, hb => by
   simp only [brunL, Option.some.injEq, Prod.mk.injEq] at h
   obtain ⟨rfl, rfl⟩ := h
   exact hk rfl _ _ G hf (Ext.refl _ _) rfl
 | i :: l, st, w, G, a, h, hf, hk, hb => by
   simp only [brunL] at h
   split at h
   ·rename_i p hp
    have hi : i < ops.size := by rw [hlen]; exact (List.getElem?_eq_some_iff.1 hp).1
    obtain ⟨p', hp', hcp⟩ := hpos i ops[i] (by simp [hi])
    have : p' = p := by rw [hp] at hp'; simpa using hp'.symm
    subst this
    rw [wpOpsIn_cons]
    have hoi : ops[i]? = some ops[i] := by simp [hi]
    split at h
    ·rename_i st1 hs
     refine bstep_sound (res := none) hF hE hP nm hoi hf hcf hob hro hcL hoL (fun c => hd i _ c hoi) hcp hs hQ ?_ (fun p e => by simp at e)
     intro _ a' w' G' hf' he hsz
     exact opsB_sound hF hE hP nm hcf hob hro hcL hoL hd hpos hlen hQ h hf' (fun hn => (hk hn).trans he hsz)
      (fun p hp a2 w2 G2 v h1 h2 h3 h4 => hb p hp a2 w2 G2 v (h1.trans hsz) h2 (he.trans h3) h4)
    ·rename_i hne
     have hs : bstep cf ob i p' st = some (res, st') := h
     cases res with
     | none => exact absurd hs (hne st')
     | some v =>
       refine bstep_sound (res := some v) hF hE hP nm hoi hf hcf hob hro hcL hoL (fun c => hd i _ c hoi) hcp hs hQ (fun e => by simp at e) ?_
       rintro p e w' G' u h1 h2 h3
       cases e
       exact hb v rfl a w' G' u rfl h1 h2 h3
   ·simp at h
theorem cOpersB_get : ∀ {os : List Oper} {pos : List PO} {ops : List Oper}, cOpersB E vs ops os = some pos → os.length = pos.length ∧ ∀ (i : Nat) (o : Oper), os[i]? = some o → ∃ p, pos[i]? = some p ∧ cOperB E vs ops o = some p
 | [], pos, ops, h => by simp [cOpersB] at h; subst h; simp
 | o :: os, pos, ops, h => by
   simp only [cOpersB, Option.bind_eq_some_iff, Option.map_eq_some_iff] at h
   obtain ⟨p, hp, ps, hps, rfl⟩ := h
   obtain ⟨h1, h2⟩ := cOpersB_get hps
   refine ⟨by simp [h1], ?_⟩
   intro i x hx
   cases i with
   | zero => simp at hx; subst hx; exact ⟨p, rfl, hp⟩
   | succ i => exact h2 i x (by simpa using hx)
/-- A region in which a call may panic. -/
theorem regionB_sound (hF : FnsOK N P L) (hE : EnvOk E N) (hP : E.P = P) (hmix : P.follows .mixedOrders = true) (hnd : vs.Nodup) {cf : CallF} (hcf : CallOK N P cf) {ob : OutF} (hob : OutOK N P ob) (hro : RoundOK N P ob)
  (hcL : ∀ k args h r, cf k args h = some r → ∃ f, L k = some f) (hoL : ∀ k args h x, ob k args h = some x → ∃ f, L k = some f)
  {id : Nat} {ops : Array Oper} {d : Bool} {pos : List PO} (hc : compB E nt vs ops d = some pos) {w : World} {G : GS} {st st' : St} {a : Act} {res : Option PV} (hs : brun cf ob 0 pos (begun pos.length st) = some (res, st')) (hb : BI N w G st a vs nt) (hQ : ¬ LetsOut Q)
  (hk : res = none → ∀ a' w' G', FI N w' G' st' a' vs (lmap vs ops.toList) → Ext w G w' G' → nt ≤ a'.tmps.size → Q .normal a' w')
  (hbm : ∀ p, res = some p → ∀ a' w' G' v, VR N w' G'.fix G'.heap v p → Ext w G w' G' → BI N w' G' (closed st') a' vs nt → Q (.panic [{ v, recovered := false }]) a' w') : (Code.region id ops d).wpIn (W r) 0 P Q a w := by
 unfold compB at hc
 split at hc
 ·rename_i hcond
  simp only [Bool.and_eq_true] at hcond
  simp only [Option.bind_eq_some_iff] at hc
  obtain ⟨pos', hpos, hc⟩ := hc
  split at hc
  ·simp at hc
  ·rename_i hord
   simp at hc; subst hc
   have nm := names_ok hnd hcond.1.1
   have hlen : ops.size = pos'.length := by have := (cOpersB_get hpos).1; simpa using this
   have hfi := FI.begin hb (lmap vs ops.toList) (lmap_lt hcond.1.2) pos'.length
   have hx : brunL cf ob pos' (List.range' 0 pos'.length) (begun pos'.length st) = some (res, st') := by
    rw [← brun_L (all := pos') (by simp)]; exact hs
   have hk' : res = none → Next1 N w G a st' vs ops.toList (Q .normal) := fun hn a' w' G' h1 h2 h3 => hk hn a' w' G' h1 h2 (by rw [h3]; exact hb.size)
   have hbm' : ∀ p, res = some p → ∀ a' w' G' v, a'.tmps.size = a.tmps.size → VR N w' G'.fix G'.heap v p → Ext w G w' G' → FI N w' G' st' a' vs (lmap vs ops.toList) → Q (.panic [{ v, recovered := false }]) a' w' :=
    fun p hp a' w' G' v h1 h2 h3 h4 => hbm p hp a' w' G' v h2 h3 (FI.finish h4 (by rw [h1]; exact hb.size))
   have hnd := noDefer_spec hcond.2
   cases d with
   | false =>
     refine wpIn_region ?_
     have : List.range ops.size = List.range' 0 pos'.length := by rw [hlen, List.range_eq_range']
     rw [this]
     exact opsB_sound hF hE hP nm hcf hob hro hcL hoL hnd (cOpersB_get hpos).2 hlen hQ hx hfi hk' hbm'
   | true =>
     have hord' : orderOk ops pos' = true := by simpa using hord
     refine wpIn_region_draw fun t => ?_
     have hfd : FI N w.drew G (begun pos'.length st) a vs (lmap vs ops.toList) := hfi.ext (drew_ext w G) (drew_keep w G) hfi.gen hfi.owlt hfi.fixlt
     simp only [Region.schedule, hmix, Bool.true_or, if_true]
     have hx2 := lin_run hlen hord' ops.size t (listed := Array.replicate ops.size false) (by simp) (by rw [remOf_all]; simp) (closed_none ops) (by rw [remOf_all, hlen]; exact hx)
     exact opsB_sound hF hE hP nm hcf hob hro hcL hoL hnd (cOpersB_get hpos).2 hlen hQ hx2 hfd (fun hn => (hk' hn).trans (drew_ext w G) rfl)
      (fun p hp a' w' G' v h1 h2 h3 h4 => hbm' p hp a' w' G' v h1 h2 ((drew_ext w G).trans h3) h4)
 ·simp at hc
/-- A place that is no variable. -/
theorem BI.putOther {w : World} {G : GS} {st : St} {a : Act} (h : BI N w G st a vs nt) {d : Tmp} (hd : (idxIn d vs 0).isNone = true) (v : Value) : BI N w G st (a.put (some d) v) vs nt := by
 refine ⟨⟨h.fi.len, ?_, (by intro j t u hj; simp at hj), fun i t ht => by simpa [Act.put] using h.fi.tv i t ht, (by intro j t hj; simp at hj), h.fi.defers, h.fi.gen, h.fi.owlt, h.fi.fixlt, h.fi.heap, h.fi.hdom⟩, by simpa [Act.put] using h.size⟩
 intro i t u h1 h2
 have hne : t ≠ d := by
  rintro rfl
  have := idxIn_of h1 0
  simp at hd
  rw [hd] at this
  simp at this
 have : (a.put (some d) v).eval (.tmp t) = a.eval (.tmp t) := by
  simp only [Act.eval, Act.put, Array.getD_eq_getD_getElem?, Array.getElem?_setIfInBounds]
  rw [if_neg (Ne.symm hne)]
 rw [this]
 exact h.fi.var i t u h1 h2
theorem opsP_sound (hF : FnsOK N P L) (hE : EnvOk E N) (hP : E.P = P) {ops : Array Oper} (nm : Names vs (lmap vs ops.toList)) {cf : CallF} (hcf : CallOK N P cf)
  (hcL : ∀ k args h x, cf k args h = some x → ∃ f, L k = some f) (hd : ∀ (i : Nat) (o : Oper) c, ops[i]? = some o → o.op ≠ .defer c) {pos : List PO} (hpos : ∀ (i : Nat) (p : PO), pos[i]? = some p → ∃ o, ops[i]? = some o ∧ cOper E vs ops.toList o = some p)
  {st' : St} (hQ : ¬ LetsOut Q) {rest : List Nat} :
  ∀ {l : List Nat} {st : St} {w : World} {G : GS} {a : Act}, execL cf pos l st = some st' → FI N w G st a vs (lmap vs ops.toList) → Next1 N w G a st' vs ops.toList (wpOpsIn (W r) 0 P ops Q rest) → wpOpsIn (W r) 0 P ops Q (l ++ rest) a w
 | [], st, w, G, a, h, hf, hk => by
   simp only [execL, Option.some.injEq] at h
   subst h
   exact hk _ _ G hf (Ext.refl _ _) rfl
 | i :: l, st, w, G, a, h, hf, hk => by
   simp only [execL] at h
   split at h
   ·rename_i p hp
    simp only [Option.bind_eq_some_iff] at h
    obtain ⟨st1, h1, h2⟩ := h
    obtain ⟨o, ho, hcp⟩ := hpos i p hp
    rw [List.cons_append, wpOpsIn_cons]
    refine wpOpIn_of (fun o' c ho' => hd i o' c ho') hQ (step1_sound hF hE hP nm ho hf hcf hcL hcp h1 ?_)
    intro a' w' G' hf' he hsz
    exact opsP_sound hF hE hP nm hcf hcL hd hpos hQ h2 hf' (hk.trans he hsz)
   ·simp at h
/-- A panic. -/
theorem raise_sound (hF : FnsOK N P L) (hE : EnvOk E N) (hP : E.P = P) (hnd : vs.Nodup) {cf : CallF} (hcf : CallOK N P cf) (hcL : ∀ k args h r, cf k args h = some r → ∃ f, L k = some f)
  {id : Nat} {ops : Array Oper} {pos : List PO} {t : Nat} {px : PX} (hc : compRaise E nt vs ops = some (pos, t, px)) {w : World} {G : GS} {st st1 : St} {a : Act} {u : PV} (hs : execOps cf pos st = some st1) (hu : rd st1 px = some u) (hb : BI N w G st a vs nt) (hQ : ¬ LetsOut Q)
  (hbm : ∀ a' w' G' v, VR N w' G'.fix G'.heap v (.iface t u) → Ext w G w' G' → BI N w' G' (closed st1) a' vs nt → Q (.panic [{ v, recovered := false }]) a' w') : (Code.region id ops false).wpIn (W r) 0 P Q a w := by
 unfold compRaise at hc
 split at hc
 ·rename_i hcond
  simp only [Bool.and_eq_true] at hcond
  split at hc
  ·rename_i d T x ty1 p1 af1 dst2 d' ty2 p2 af2 hdrop
   split at hc
   ·simp at hc
   ·simp at hc
   ·rename_i tu hnif htu
    split at hc
    ·rename_i hdd
     obtain ⟨rfl, hdv, h2⟩ := hdd
     simp only [Option.bind_eq_some_iff, Option.map_eq_some_iff, Prod.mk.injEq] at hc
     obtain ⟨pos', hpos, px', hpx, i, hi, rfl, rfl, rfl⟩ := hc
     obtain ⟨m, hm⟩ : ∃ m, ops.size = m + 2 := ⟨ops.size - 2, by omega⟩
     rw [hm] at hdrop hpos
     simp only [Nat.add_sub_cancel] at hdrop hpos
     have nm := names_ok hnd hcond.1.1
     have hpl : pos'.length = m := by
      have := (cOpers_get hpos).1
      rw [List.length_take] at this
      simp at this
      omega
     have hdf := noDefer_spec hcond.2
     have hpg : ∀ (i : Nat) (p : PO), pos'[i]? = some p → ∃ o, ops[i]? = some o ∧ cOper E vs ops.toList o = some p := by
      intro i p hp
      have hlt := (List.getElem?_eq_some_iff.1 hp).1
      have hlt2 : i < ops.size := by omega
      obtain ⟨p', hp', hcp⟩ := (cOpers_get hpos).2 i ops[i] (by rw [List.getElem?_take_of_lt (by omega)]; simp [hlt2])
      rw [hp] at hp'
      cases hp'
      exact ⟨ops[i], by simp [hlt2], hcp⟩
     have hfi := FI.begin hb (lmap vs ops.toList) (lmap_lt hcond.1.2) pos'.length
     have hx : execL cf pos' (List.range' 0 pos'.length) (begun pos'.length st) = some st1 := by
      rw [← execFrom_L (all := pos') (by simp)]; exact hs
     have hgm : ops.toList[m]? = some ⟨some d, .makeInterface T x, ty1, p1, af1, none⟩ := by
      have := congrArg (·[0]?) hdrop
      simpa [List.getElem?_drop] using this
     have hgm1 : ops.toList[m + 1]? = some ⟨dst2, .panic (.tmp d), ty2, p2, af2, none⟩ := by
      have := congrArg (·[1]?) hdrop
      simpa [List.getElem?_drop] using this
     have hdn : d < nt := by
      have := List.all_eq_true.1 hcond.1.2 _ (List.mem_of_getElem? hgm)
      simpa using this
     have hrange : List.range ops.size = List.range' 0 pos'.length ++ [m, m + 1] := by
      rw [hm, hpl, List.range_eq_range', List.range'_eq_append_iff]
      exact ⟨m, by omega, rfl, by rw [show m + 2 - m = 2 by omega]; simp [List.range'_succ]⟩
     refine wpIn_region ?_
     rw [hrange]
     refine opsP_sound hF hE hP nm hcf hcL hdf hpg hQ hx hfi ?_
     intro a' w' G' hf' he hsz
     have hval := (rd_sound hE hpx hf' hu).1
     have hty := hE.pt T i hi
     have hP' : P.underlying T = some tu := by rw [← hP]; exact htu
     rw [wpOpsIn_cons]
     unfold wpOpIn
     have hg0 : ops[m]? = some ⟨some d, .makeInterface T x, ty1, p1, af1, none⟩ := by simpa using hgm
     have hg1 : ops[m + 1]? = some ⟨dst2, .panic (.tmp d), ty2, p2, af2, none⟩ := by simpa using hgm1
     simp only [hg0, Region.wanted, if_true]
     refine ⟨fun _ _ => W_fn _, ?_⟩
     rw [Oper.semAt_eq _ _ _ (by simp)]
     have hrun : (execOp a'.eval (⟨some d, .makeInterface T x, ty1, p1, af1, none⟩ : Oper)).run P w' = .ok (.value (.iface T (a'.eval x))) w' := by
      have hru := run_underlying hP' w'
      simp only [execOp, Instr.makeInterface, Sem.run_bind, hru, Result.andThen_ok]
      cases tu <;> first | (exfalso; exact hnif _ rfl) | simp
     rw [hrun, Oper.uponIn_value]
     rw [wpOpsIn_cons]
     unfold wpOpIn
     simp only [hg1, Region.wanted, if_true]
     refine ⟨fun _ _ => W_fn _, ?_⟩
     rw [Oper.semAt_eq _ _ _ (by simp)]
     have hev : (a'.put (some d) (.iface T (a'.eval x))).eval (.tmp d) = .iface T (a'.eval x) := by
      have : d < a'.tmps.size := by rw [hsz]; exact Nat.lt_of_lt_of_le hdn hb.size
      simp [Act.eval, Act.put, Array.getD_eq_getD_getElem?, Array.getElem?_setIfInBounds, this]
     have hrun2 : (execOp (a'.put (some d) (.iface T (a'.eval x))).eval (⟨dst2, .panic (.tmp d), ty2, p2, af2, none⟩ : Oper)).run P w' = .halt (.panic (.iface T (a'.eval x))) w' := by
      simp only [execOp, Instr.panic, hev]
      rfl
     rw [hrun2, Oper.uponIn_panic]
     refine hbm _ w' G' _ ?_ he ((FI.finish hf' (by rw [hsz]; exact hb.size)).putOther hdv _)
     rw [← hty]
     exact .iface _ _ _ hval
    ·simp at hc
  ·simp at hc
 ·simp at hc
end
end PI
