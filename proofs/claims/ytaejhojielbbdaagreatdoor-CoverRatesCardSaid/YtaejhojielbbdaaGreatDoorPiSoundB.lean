/-
  Calls that may panic; rounds.
-/
import Derived.Test.YtaejhojielbbdaaGreatDoorPiLin
set_option linter.unusedSimpArgs false
set_option linter.unusedVariables false
set_option linter.unusedSectionVars false
namespace PI
open Go Go.RowKit
/-- What a callee is told of the caller's memory. -/
def GS.callee (G : GS) : GS := { fix := G.fix, heap := G.heap, box := fun _ => none, ow := onlyH G.ow }
section
variable {E : Env} {N : Nm} {w : World} {G : GS} {st : St} {a : Act} {vs : List Tmp} {lm : Nat → Option Tmp} {P : Program}
theorem between_callee (hf : FI N w G st a vs lm) : Between N w G.callee st.heap :=
 ⟨⟨fun b k h => (onlyH_some h).2, fun _ => rfl⟩, hf.fixlt, fun b k h => hf.owlt b k (onlyH_some h).1, hf.heap.sub rfl rfl (fun b k hk h => onlyH_of h hk), hf.hdom⟩
/-- The end of a call with the heap, for the caller. -/
theorem back_heap (hf : FI N w G st a vs lm) {w' : World} {G2 : GS} {h' : List PObj} (he : Ext w G.callee w' G2) (hb2 : Between N w' G2 h') :
  ∃ G', Ext w G w' G' ∧ FI N w' G' { st with heap := h' } a vs lm ∧ G'.fix = G2.fix ∧ G'.heap = G2.heap := by
 let Gc : GS := G.callee
 let G' : GS := { fix := G2.fix, heap := G2.heap, box := G.box, ow := fun b => match G.ow b with | some k => if k.isH then G2.ow b else some k | none => G2.ow b, df := G.df }
 have hext : Ext w G w' G' := by
  refine ⟨he.os, he.tape, he.output, he.size, fun b hlt h => he.same b hlt (by simp [GS.callee, onlyH, h]), fun b o h => he.fix b o h, ?_, ?_, he.heap, he.shape, rfl⟩
  ·intro b o h
   rcases he.newfix b o h with h | h | h
   ·exact .inl h
   ·exact .inr (.inl h)
   ·refine .inr (.inr ?_)
    intro e
    apply h
    simp [GS.callee, onlyH, e]
  ·intro b h
   cases hb : G.ow b with
   | some k => exact .inr (by simp)
   | none =>
     simp only [G', hb] at h
     rcases he.own b h with h | h
     ·exact .inl h
     ·exact absurd (by simp [GS.callee, onlyH, hb]) h
 have hkeep : Keep (fun k => k.isH = true) w G w' G' := by
  refine ⟨?_, fun _ _ h => h⟩
  intro b key hb' hn
  have hlt' := hf.owlt _ _ hb'
  have hnone : Gc.ow b = none := by simp [Gc, GS.callee, onlyH, hb', hn]
  refine ⟨by simp [G', hb', hn], he.same b hlt' hnone, ?_⟩
  intro o h
  rcases he.newfix b o h with h | h | h
  ·exact h
  ·omega
  ·exact absurd hnone h
 have hheap : HR N w' G' h' := by
  refine hb2.heap.sub rfl rfl ?_
  intro b k hkH h
  cases hb : G.ow b with
  | none => simp only [G', hb]; exact h
  | some k0 =>
    by_cases hk0 : k0.isH = true
    ·simp only [G', hb, hk0, if_true]; exact h
    ·have hnone : Gc.ow b = none := by simp [Gc, GS.callee, onlyH, hb, hk0]
     have hlt := hf.owlt _ _ hb
     rcases he.own b (by rw [h]; simp) with h2 | h2
     ·omega
     ·exact absurd hnone h2
 have hf1 : FI N w' G' { st with heap := h' } a vs lm := by
  refine ⟨hf.len, fun i t u h1 h2 => (hf.var i t u h1 h2).keep hext hkeep (by simp [Key.isH]) (by simp [Key.isH]), fun j t u h1 h2 => (hf.loc j t u h1 h2).keep hext hkeep (by simp [Key.isH]) (by simp [Key.isH]), hf.tv, hf.tl, (hf.defers.trans hext.df.symm), hf.gen, ?_, hb2.fixlt, hheap, hb2.hdom⟩
  intro b k h
  cases hb : G.ow b with
  | some k0 => exact Nat.lt_of_lt_of_le (hf.owlt _ _ hb) he.size
  | none =>
    simp only [G', hb] at h
    exact hb2.owlt _ _ h
 exact ⟨G', hext, hf1, rfl, rfl⟩
/-- How a call ends. -/
def OutR (N : Nm) (w' : World) (G' : GS) (e : Ending) : Out → Prop
 | .val r => ∃ v, e = .returned v ∧ VR N w' G'.fix G'.heap v r
 | .boom p => ∃ v, e = .panicked [{ v, recovered := false }] ∧ VR N w' G'.fix G'.heap v p
def OutOK (N : Nm) (P : Program) (ob : OutF) : Prop :=
 ∀ (k : Nat) (args : List PV) (o : Out) (h h' : List PObj), ob k args h = some (o, h') → N.yl k = none → ∀ (w : World) (G : GS) (vals : Array Value), Between N w G h → vals.size = args.length →
   (∀ (i : Nat) (v : Value) (p : PV), vals[i]? = some v → args[i]? = some p → VR N w G.fix G.heap v p) →
   Calls P (N.fn k) vals w fun e w' => ∃ G', OutR N w' G' e o ∧ Ext w G w' G' ∧ Between N w' G' h'
/-- A round, called with so many values. -/
def RoundOK (N : Nm) (P : Program) (ob : OutF) : Prop :=
 ∀ (k : Nat) (y : YL) (n l : Nat) (tmps : Array Value) (caps args : List PV) (o : Out) (h h' : List PObj), N.yl k = some y → ob k (.ptr n 0 :: caps ++ args) h = some (o, h') → ∀ (w : World) (G : GS) (vals : Array Value), Between N w G h →
   VR N w G.fix G.heap (.func (.yield l) #[] #[]) (.func k (.ptr n 0 :: caps) []) → vals.size = args.length → (∀ (i : Nat) (v : Value) (p : PV), vals[i]? = some v → args[i]? = some p → VR N w G.fix G.heap v p) →
   ∃ tmps', (Instr.yield l vals).run P w = .ok (.round l y.fn tmps' y.assign y.body) w ∧ ∀ r n', RoundIn (W r) n' P l y.fn tmps' y.assign y.body w fun e w' => ∃ G', OutR N w' G' e o ∧ Ext w G w' G' ∧ Between N w' G' h'
variable {ops : Array Oper} {o : Oper} {j : Nat} {Q : Exit → Act → World → Prop} {K : Act → World → Prop} {r : Option Nat} {n : Nat}
/-- What follows a panic. -/
def Booms (N : Nm) (w : World) (G : GS) (a : Act) (st1 : St) (vs : List Tmp) (lm : Nat → Option Tmp) (p : PV) (Q : Exit → Act → World → Prop) : Prop :=
 ∀ w' G' v, VR N w' G'.fix G'.heap v p → Ext w G w' G' → FI N w' G' st1 a vs lm → Q (.panic [{ v, recovered := false }]) a w'
theorem out_back (nm : Names vs (lmap vs ops.toList)) (ho : ops[j]? = some o) (hf : FI N w G st a vs (lmap vs ops.toList)) {out : Out} {h' : List PObj} (hQ : ¬ LetsOut Q)
  (hv : ∀ u, out = .val u → Next1 N w G a (put { st with heap := h' } j (cDst vs o.dst) (dem u)) vs ops.toList K) (hb : ∀ p, out = .boom p → Booms N w G a { st with heap := h' } vs (lmap vs ops.toList) p Q)
  {e : Ending} {w' : World} {G2 : GS} (h : OutR N w' G2 e out) (he : Ext w G.callee w' G2) (hb2 : Between N w' G2 h') :
  (match e with
   | .returned v => K (a.put o.dst v) w'
   | .panicked chain => Q (.panic chain) a w'
   | .outgrown => LetsOut Q) := by
 obtain ⟨G', hext, hf1, e1, e2⟩ := back_heap hf he hb2
 cases out with
 | val u =>
   obtain ⟨v, rfl, hvr⟩ := h
   have hvr' : VR N w' G'.fix G'.heap v (dem u) := by rw [e1, e2]; exact hvr.dem
   exact hv u rfl _ _ G' (hf1.put nm (cDst_ok (by simpa using ho)) (SR.of_pure hvr' hvr.cp_dem)) hext (put_size _ _ _)
 | boom p =>
   obtain ⟨v, rfl, hvr⟩ := h
   exact hb p rfl w' G' v (by rw [e1, e2]; exact hvr) hext hf1
theorem call_semAt {c : Call} (hop : o.op = .call c) (ρ : Operand → Value) : o.semAt (W r).round ρ = execOp ρ o := Oper.semAt_eq _ _ _ (fun c' h => by rw [hop] at h; cases h)
theorem bcall_sound {L : Nat → Option PFunc} (hF : FnsOK N P L) (hE : EnvOk E N) (nm : Names vs (lmap vs ops.toList)) (ho : ops[j]? = some o) (hf : FI N w G st a vs (lmap vs ops.toList)) {ob : OutF} (hob : OutOK N P ob) (hoL : ∀ k args h x, ob k args h = some x → ∃ f, L k = some f)
  {f : FuncId} {k : Nat} {xs : Array Operand} {ts : Array TypeId} {pxs : List PX} {args : List PV} (hop : o.op = .call { callee := .value (.func f), args := xs, argTypes := ts }) (hk' : E.inv f = some k) (hx : cxs E vs ops.toList xs.toList = some pxs)
  (hus : rdAll st pxs = some args) {out : Out} {h' : List PObj} (hc : ob k args st.heap = some (out, h')) (hQ : ¬ LetsOut Q)
  (hv : ∀ u, out = .val u → Next1 N w G a (put { st with heap := h' } j (cDst vs o.dst) (dem u)) vs ops.toList K) (hb : ∀ p, out = .boom p → Booms N w G a { st with heap := h' } vs (lmap vs ops.toList) p Q) : o.wpIn (W r) n P a w K Q := by
 obtain ⟨h1, h2⟩ := rdAll_sound hE hf hx hus
 obtain ⟨g1, g2⟩ := vals_of (w := w) (G := G) h1 h2
 obtain ⟨pf, hL⟩ := hoL _ _ _ _ hc
 have hfn := hE.fn _ _ hk'
 refine ⟨fun _ _ => W_fn _, ?_⟩
 rw [call_semAt hop]
 have hrun : (execOp a.eval o).run P w = .ok (.enter (N.fn k) (xs.map a.eval)) w := by
  have := run_callFunc hF hL (xs.map a.eval) w
  rw [hfn] at this
  rw [hfn]
  simp [execOp, hop, resolve, Act.eval, Deferred.ofValue, invoke]
  exact this
 rw [hrun, Oper.uponIn_enter]
 refine ⟨W_depth, callsW ?_⟩
 refine (hob k args out st.heap h' hc (hE.yl _ _ hk') w G.callee (xs.map a.eval) (between_callee hf) g1 g2).mono ?_
 rintro e w' ⟨G2, hR, he, hb2⟩
 have := out_back nm ho hf hQ hv hb hR he hb2
 cases e <;> exact this
theorem bcallv_sound {L : Nat → Option PFunc} (hF : FnsOK N P L) (hE : EnvOk E N) (nm : Names vs (lmap vs ops.toList)) (ho : ops[j]? = some o) (hf : FI N w G st a vs (lmap vs ops.toList)) {ob : OutF} (hob : OutOK N P ob) (hro : RoundOK N P ob) (hoL : ∀ k args h x, ob k args h = some x → ∃ f, L k = some f)
  {t : Tmp} {px : PX} {k : Nat} {first captured : List PV} {xs : Array Operand} {ts : Array TypeId} {pxs : List PX} {args : List PV} (hop : o.op = .call { callee := .value (.tmp t), args := xs, argTypes := ts }) (hpx : cx E vs ops.toList (.tmp t) = some px) (hx : cxs E vs ops.toList xs.toList = some pxs)
  (hfv : rd st px = some (.func k first captured)) (hus : rdAll st pxs = some args) {out : Out} {h' : List PObj} (hc : ob k (first ++ args ++ captured) st.heap = some (out, h')) (hQ : ¬ LetsOut Q)
  (hv : ∀ u, out = .val u → Next1 N w G a (put { st with heap := h' } j (cDst vs o.dst) (dem u)) vs ops.toList K) (hb : ∀ p, out = .boom p → Booms N w G a { st with heap := h' } vs (lmap vs ops.toList) p Q) : o.wpIn (W r) n P a w K Q := by
 obtain ⟨h1, h2⟩ := rdAll_sound hE hf hx hus
 obtain ⟨g1, g2⟩ := vals_of (w := w) (G := G) h1 h2
 obtain ⟨pf, hL⟩ := hoL _ _ _ _ hc
 have hfun := (rd_sound hE hpx hf hfv).1
 refine ⟨fun _ _ => W_fn _, ?_⟩
 rw [call_semAt hop]
 generalize hval : a.eval (.tmp t) = v at hfun
 cases hfun with
 | yield _ m l y tmps caps hy hl hr hlen hsz hcap =>
   have hvr : VR N w G.callee.fix G.callee.heap (.func (.yield l) #[] #[]) (.func k (.ptr m 0 :: caps) []) := .yield k m l y tmps caps hy hl hr hlen hsz hcap
   rw [List.append_nil] at hc
   obtain ⟨tmps', hyr, hround⟩ := hro k y m l tmps caps args out st.heap h' hy hc w G.callee (xs.map a.eval) (between_callee hf) hvr g1 g2
   have hrun : (execOp a.eval o).run P w = .ok (.round l y.fn tmps' y.assign y.body) w := by
    simp only [execOp, hop, resolve, Sem.run_bind, hval, Deferred.ofValue, Sem.run_pure, Result.andThen_ok, invoke]
    simpa using hyr
   rw [hrun, Oper.uponIn_round]
   refine ⟨W_depth, (hround r (n - 1)).mono ?_⟩
   rintro e w' ⟨G2, hR, he, hb2⟩
   have := out_back nm ho hf hQ hv hb hR he hb2
   cases e <;> exact this
 | func _ fs cs _ _ hy e1 e2 hfs hcs =>
   have hrun : (execOp a.eval o).run P w = .ok (.enter (N.fn k) (fs ++ xs.map a.eval ++ cs)) w := by
    have := run_callFunc hF hL (fs ++ xs.map a.eval ++ cs) w
    simp only [execOp, hop, resolve, Sem.run_bind, hval, Deferred.ofValue, Sem.run_pure, Result.andThen_ok, invoke]
    exact this
   rw [hrun, Oper.uponIn_enter]
   refine ⟨W_depth, callsW ?_⟩
   refine (hob k _ out st.heap h' hc hy w G.callee (fs ++ xs.map a.eval ++ cs) (between_callee hf) (by simp [e1, e2]; simpa using h1) ?_).mono ?_
   ·intro i v p hv' hp
    by_cases hi : i < fs.size
    ·rw [Array.append_assoc, Array.getElem?_append_left hi] at hv'
     rw [List.append_assoc, List.getElem?_append_left (by omega)] at hp
     exact hfs i v p hv' hp
    ·rw [Array.append_assoc, Array.getElem?_append_right (by omega)] at hv'
     rw [List.append_assoc, List.getElem?_append_right (by omega), ← e1] at hp
     by_cases hi2 : i - fs.size < (xs.map a.eval).size
     ·rw [Array.getElem?_append_left hi2] at hv'
      rw [List.getElem?_append_left (by omega)] at hp
      exact g2 _ v p hv' hp
     ·rw [Array.getElem?_append_right (by omega)] at hv'
      rw [List.getElem?_append_right (by omega), ← g1] at hp
      exact hcs _ v p hv' hp
   ·rintro e w' ⟨G2, hR, he, hb2⟩
    have := out_back nm ho hf hQ hv hb hR he hb2
    cases e <;> exact this
/-- One operation of such a region. -/
theorem bstep_sound {L : Nat → Option PFunc} (hF : FnsOK N P L) (hE : EnvOk E N) (hP : E.P = P) (nm : Names vs (lmap vs ops.toList)) (ho : ops[j]? = some o) (hf : FI N w G st a vs (lmap vs ops.toList)) {cf : CallF} (hcf : CallOK N P cf) {ob : OutF} (hob : OutOK N P ob) (hro : RoundOK N P ob)
  (hcL : ∀ k args h x, cf k args h = some x → ∃ f, L k = some f) (hoL : ∀ k args h x, ob k args h = some x → ∃ f, L k = some f) (hd : ∀ c, o.op ≠ .defer c) {po : PO} (hc : cOperB E vs ops.toList o = some po) {res : Option PV} {st1 : St} (hs : bstep cf ob j po st = some (res, st1)) (hQ : ¬ LetsOut Q)
  (hk : res = none → Next1 N w G a st1 vs ops.toList K) (hb : ∀ p, res = some p → Booms N w G a st1 vs (lmap vs ops.toList) p Q) : wpOpIn (W r) n P ops Q j K a w := by
 have plain : ∀ {po : PO}, cOperN E vs ops.toList o = some po → bstep cf ob j po st = some (res, st1) → wpOpIn (W r) n P ops Q j K a w := by
  intro po hc hs
  simp only [cOperN, Option.bind_eq_some_iff] at hc
  obtain ⟨p, hp, hc⟩ := hc
  split at hc
  ·simp at hc
  ·rename_i hnb
   simp only [Option.some.injEq] at hc
   subst hc
   rw [bstep_plain (by simpa using hnb)] at hs
   simp only [Option.map_eq_some_iff, Prod.mk.injEq] at hs
   obtain ⟨st2, h1, rfl, rfl⟩ := hs
   refine wpOpIn_of (fun o' c ho' => ?_) hQ (step1_sound hF hE hP nm ho hf hcf hcL hp h1 (hk rfl))
   rw [ho] at ho'
   simp only [Option.some.injEq] at ho'
   subst ho'
   exact hd c
 unfold cOperB at hc
 split at hc
 ·rename_i dst f xs ts ty pos aft
  split at hc
  ·simp only [Option.bind_eq_some_iff, Option.map_eq_some_iff] at hc
   obtain ⟨k, hk', ps, hps, rfl⟩ := hc
   simp only [bstep] at hs
   split at hs
   ·rename_i us hus
    unfold wpOpIn
    simp only [ho, Region.wanted, if_true]
    split at hs
    ·rename_i u h' hcall
     simp only [Option.some.injEq, Prod.mk.injEq] at hs
     obtain ⟨rfl, rfl⟩ := hs
     exact bcall_sound hF hE nm ho hf hob hoL rfl hk' hps hus hcall hQ (fun u' e => by cases e; exact hk rfl) (fun p e => by cases e)
    ·rename_i v h' hcall
     simp only [Option.some.injEq, Prod.mk.injEq] at hs
     obtain ⟨rfl, rfl⟩ := hs
     exact bcall_sound hF hE nm ho hf hob hoL rfl hk' hps hus hcall hQ (fun u' e => by cases e) (fun p e => by cases e; exact hb _ rfl)
    ·simp at hs
   ·simp at hs
  ·exact plain hc hs
 ·rename_i dst t xs ts ty pos aft
  split at hc
  ·simp only [Option.bind_eq_some_iff, Option.map_eq_some_iff] at hc
   obtain ⟨px, hpx, ps, hps, rfl⟩ := hc
   simp only [bstep] at hs
   split at hs
   ·rename_i k first captured us hfv hus
    unfold wpOpIn
    simp only [ho, Region.wanted, if_true]
    split at hs
    ·rename_i u h' hcall
     simp only [Option.some.injEq, Prod.mk.injEq] at hs
     obtain ⟨rfl, rfl⟩ := hs
     exact bcallv_sound hF hE nm ho hf hob hro hoL rfl hpx hps hfv hus hcall hQ (fun u' e => by cases e; exact hk rfl) (fun p e => by cases e)
    ·rename_i v h' hcall
     simp only [Option.some.injEq, Prod.mk.injEq] at hs
     obtain ⟨rfl, rfl⟩ := hs
     exact bcallv_sound hF hE nm ho hf hob hro hoL rfl hpx hps hfv hus hcall hQ (fun u' e => by cases e) (fun p e => by cases e; exact hb _ rfl)
    ·simp at hs
   ·simp at hs
  ·exact plain hc hs
 ·exact plain hc hs
end
end PI
