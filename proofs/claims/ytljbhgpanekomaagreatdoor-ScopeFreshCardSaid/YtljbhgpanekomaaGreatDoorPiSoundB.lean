import Derived.Test.YtljbhgpanekomaaGreatDoorPiSound9
import Derived.BigRegion
import Derived.RangeFuncRecord
set_option linter.unusedSimpArgs false
set_option linter.unusedVariables false
namespace PI
open Go Go.RowKit
def GS.callee (G : GS) : GS := { fix := G.fix, heap := G.heap, box := fun _ => none, ow := onlyH G.ow }
section
variable {E : Env} {N : Nm} {w : World} {G : GS} {st : St} {a : Act} {vs : List Tmp} {lm : Nat → Option Tmp} {P : Program}
theorem between_callee (hf : FI N w G st a vs lm) : Between N w G.callee st.heap :=
 ⟨⟨fun b k h => (onlyH_some h).2, fun _ => rfl⟩, hf.fixlt, fun b k h => hf.owlt b k (onlyH_some h).1, hf.heap.sub rfl rfl (fun b k hk h => onlyH_of h hk), hf.hdom⟩
theorem back_heap (hf : FI N w G st a vs lm) {w' : World} {G2 : GS} {h' : List PObj} (he : Ext w G.callee w' G2) (hb2 : Between N w' G2 h') :
  ∃ G', Ext w G w' G' ∧ FI N w' G' { st with heap := h' } a vs lm ∧ G'.fix = G2.fix ∧ G'.heap = G2.heap := by
 let Gc : GS := G.callee
 let G' : GS := { fix := G2.fix, heap := G2.heap, box := G.box, ow := fun b => match G.ow b with | some k => if k.isH then G2.ow b else some k | none => G2.ow b, df := G.df }
 have hext : Ext w G w' G' := by
  refine ⟨he.os, he.tape, he.output, he.size, fun b hlt h => he.same b hlt (by simp [GS.callee, onlyH, h]), fun b o h => he.fix b o h, ?_, ?_, he.heap, he.shape, rfl⟩
  ·intro b o h
   rcases he.newfix b o h with h | h | h
   ·exact .inl h
   ·exact .inr (.inl h)
   ·refine .inr (.inr ?_)
    intro e
    apply h
    simp [GS.callee, onlyH, e]
  ·intro b h
   cases hb : G.ow b with
   | some k => exact .inr (by simp)
   | none =>
     simp only [G', hb] at h
     rcases he.own b h with h | h
     ·exact .inl h
     ·exact absurd (by simp [GS.callee, onlyH, hb]) h
 have hkeep : Keep (fun k => k.isH = true) w G w' G' := by
  refine ⟨?_, fun _ _ h => h⟩
  intro b key hb' hn
  have hlt' := hf.owlt _ _ hb'
  have hnone : Gc.ow b = none := by simp [Gc, GS.callee, onlyH, hb', hn]
  refine ⟨by simp [G', hb', hn], he.same b hlt' hnone, ?_⟩
  intro o h
  rcases he.newfix b o h with h | h | h
  ·exact h
  ·omega
  ·exact absurd hnone h
 have hheap : HR N w' G' h' := by
  refine hb2.heap.sub rfl rfl ?_
  intro b k hkH h
  cases hb : G.ow b with
  | none => simp only [G', hb]; exact h
  | some k0 =>
    by_cases hk0 : k0.isH = true
    ·simp only [G', hb, hk0, if_true]; exact h
    ·have hnone : Gc.ow b = none := by simp [Gc, GS.callee, onlyH, hb, hk0]
     have hlt := hf.owlt _ _ hb
     rcases he.own b (by rw [h]; simp) with h2 | h2
     ·omega
     ·exact absurd hnone h2
 have hf1 : FI N w' G' { st with heap := h' } a vs lm := by
  refine ⟨hf.len, fun i t u h1 h2 => (hf.var i t u h1 h2).keep hext hkeep (by simp [Key.isH]) (by simp [Key.isH]), fun j t u h1 h2 => (hf.loc j t u h1 h2).keep hext hkeep (by simp [Key.isH]) (by simp [Key.isH]), hf.tv, hf.tl, (hf.defers.trans hext.df.symm), hf.gen, ?_, hb2.fixlt, hheap, hb2.hdom⟩
  intro b k h
  cases hb : G.ow b with
  | some k0 => exact Nat.lt_of_lt_of_le (hf.owlt _ _ hb) he.size
  | none =>
    simp only [G', hb] at h
    exact hb2.owlt _ _ h
 exact ⟨G', hext, hf1, rfl, rfl⟩
def OutR (N : Nm) (w' : World) (G' : GS) (e : Ending) : Out → Prop
 | .val r => ∃ v, e = .returned v ∧ VR N w' G'.fix G'.heap v r
 | .boom p => ∃ v, e = .panicked [{ v, recovered := false }] ∧ VR N w' G'.fix G'.heap v p
def OutOK (N : Nm) (P : Program) (ob : OutF) : Prop :=
 ∀ (k : Nat) (args : List PV) (o : Out) (h h' : List PObj), ob k args h = some (o, h') → N.yl k = none → ∀ (w : World) (G : GS) (vals : Array Value), Between N w G h → vals.size = args.length →
   (∀ (i : Nat) (v : Value) (p : PV), vals[i]? = some v → args[i]? = some p → VR N w G.fix G.heap v p) →
   Calls P (N.fn k) vals w fun e w' => ∃ G', OutR N w' G' e o ∧ Ext w G w' G' ∧ Between N w' G' h'
def RoundOK (N : Nm) (P : Program) (ob : OutF) : Prop :=
 ∀ (k : Nat) (y : YL) (n l : Nat) (tmps : Array Value) (caps args : List PV) (o : Out) (h h' : List PObj), N.yl k = some y → ob k (.ptr n 0 :: caps ++ args) h = some (o, h') → ∀ (w : World) (G : GS) (vals : Array Value), Between N w G h →
   VR N w G.fix G.heap (.func (.yield l) #[] #[]) (.func k (.ptr n 0 :: caps) []) → vals.size = args.length → (∀ (i : Nat) (v : Value) (p : PV), vals[i]? = some v → args[i]? = some p → VR N w G.fix G.heap v p) →
   ∃ tmps', (Instr.yield l vals).run P w = .ok (.round l y.fn tmps' y.assign y.body) w ∧ ∀ r n', RoundIn (W r) n' P l y.fn tmps' y.assign y.body w fun e w' => ∃ G', OutR N w' G' e o ∧ Ext w G w' G' ∧ Between N w' G' h'
variable {ops : Array Oper} {o : Oper} {j : Nat} {Q : Exit → Act → World → Prop} {K : Act → World → Prop} {r : Option Nat} {n : Nat}
def Booms (N : Nm) (w : World) (G : GS) (a : Act) (st1 : St) (vs : List Tmp) (lm : Nat → Option Tmp) (p : PV) (Q : Exit → Act → World → Prop) : Prop :=
 ∀ w' G' v, VR N w' G'.fix G'.heap v p → Ext w G w' G' → FI N w' G' st1 a vs lm → Q (.panic [{ v, recovered := false }]) a w'
theorem out_back (nm : Names vs (lmap vs ops.toList)) (ho : ops[j]? = some o) (hf : FI N w G st a vs (lmap vs ops.toList)) {out : Out} {h' : List PObj} (hQ : ¬ LetsOut Q)
  (hv : ∀ u, out = .val u → Next1 N w G a (put { st with heap := h' } j (cDst vs o.dst) (dem u)) vs ops.toList K) (hb : ∀ p, out = .boom p → Booms N w G a { st with heap := h' } vs (lmap vs ops.toList) p Q)
  {e : Ending} {w' : World} {G2 : GS} (h : OutR N w' G2 e out) (he : Ext w G.callee w' G2) (hb2 : Between N w' G2 h') :
  (match e with
   | .returned v => K (a.put o.dst v) w'
   | .panicked chain => Q (.panic chain) a w'
   | .outgrown => LetsOut Q) := by
 obtain ⟨G', hext, hf1, e1, e2⟩ := back_heap hf he hb2
 cases out with
 | val u =>
   obtain ⟨v, rfl, hvr⟩ := h
   have hvr' : VR N w' G'.fix G'.heap v (dem u) := by rw [e1, e2]; exact hvr.dem
   exact hv u rfl _ _ G' (hf1.put nm (cDst_ok (by simpa using ho)) (SR.of_pure hvr' hvr.cp_dem)) hext (put_size _ _ _)
 | boom p =>
   obtain ⟨v, rfl, hvr⟩ := h
   exact hb p rfl w' G' v (by rw [e1, e2]; exact hvr) hext hf1
theorem call_semAt {c : Call} (hop : o.op = .call c) (ρ : Operand → Value) : o.semAt (W r).round ρ = execOp ρ o := Oper.semAt_eq _ _ _ (fun c' h => by rw [hop] at h; cases h)
theorem bcall_sound {L : Nat → Option PFunc} (hF : FnsOK N P L) (hE : EnvOk E N) (nm : Names vs (lmap vs ops.toList)) (ho : ops[j]? = some o) (hf : FI N w G st a vs (lmap vs ops.toList)) {ob : OutF} (hob : OutOK N P ob) (hoL : ∀ k args h x, ob k args h = some x → ∃ f, L k = some f)
  {f : FuncId} {k : Nat} {xs : Array Operand} {ts : Array TypeId} {pxs : List PX} {args : List PV} (hop : o.op = .call { callee := .value (.func f), args := xs, argTypes := ts }) (hk' : E.inv f = some k) (hx : cxs E vs ops.toList xs.toList = some pxs)
  (hus : rdAll st pxs = some args) {out : Out} {h' : List PObj} (hc : ob k args st.heap = some (out, h')) (hQ : ¬ LetsOut Q)
  (hv : ∀ u, out = .val u → Next1 N w G a (put { st with heap := h' } j (cDst vs o.dst) (dem u)) vs ops.toList K) (hb : ∀ p, out = .boom p → Booms N w G a { st with heap := h' } vs (lmap vs ops.toList) p Q) : o.wpIn (W r) n P a w K Q := by
 obtain ⟨h1, h2⟩ := rdAll_sound hE hf hx hus
 obtain ⟨g1, g2⟩ := vals_of (w := w) (G := G) h1 h2
 obtain ⟨pf, hL⟩ := hoL _ _ _ _ hc
 have hfn := hE.fn _ _ hk'
 refine ⟨fun _ _ => W_fn _, ?_⟩
 rw [call_semAt hop]
 have hrun : (execOp a.eval o).run P w = .ok (.enter (N.fn k) (xs.map a.eval)) w := by
  have := run_callFunc hF hL (xs.map a.eval) w
  rw [hfn] at this
  rw [hfn]
  simp [execOp, hop, resolve, Act.eval, Deferred.ofValue, invoke]
  exact this
 rw [hrun, Oper.uponIn_enter]
 refine ⟨W_depth, callsW ?_⟩
 refine (hob k args out st.heap h' hc (hE.yl _ _ hk') w G.callee (xs.map a.eval) (between_callee hf) g1 g2).mono ?_
 rintro e w' ⟨G2, hR, he, hb2⟩
 have := out_back nm ho hf hQ hv hb hR he hb2
 cases e <;> exact this
theorem bcallv_sound {L : Nat → Option PFunc} (hF : FnsOK N P L) (hE : EnvOk E N) (nm : Names vs (lmap vs ops.toList)) (ho : ops[j]? = some o) (hf : FI N w G st a vs (lmap vs ops.toList)) {ob : OutF} (hob : OutOK N P ob) (hro : RoundOK N P ob) (hoL : ∀ k args h x, ob k args h = some x → ∃ f, L k = some f)
  {t : Tmp} {px : PX} {k : Nat} {first captured : List PV} {xs : Array Operand} {ts : Array TypeId} {pxs : List PX} {args : List PV} (hop : o.op = .call { callee := .value (.tmp t), args := xs, argTypes := ts }) (hpx : cx E vs ops.toList (.tmp t) = some px) (hx : cxs E vs ops.toList xs.toList = some pxs)
  (hfv : rd st px = some (.func k first captured)) (hus : rdAll st pxs = some args) {out : Out} {h' : List PObj} (hc : ob k (first ++ args ++ captured) st.heap = some (out, h')) (hQ : ¬ LetsOut Q)
  (hv : ∀ u, out = .val u → Next1 N w G a (put { st with heap := h' } j (cDst vs o.dst) (dem u)) vs ops.toList K) (hb : ∀ p, out = .boom p → Booms N w G a { st with heap := h' } vs (lmap vs ops.toList) p Q) : o.wpIn (W r) n P a w K Q := by
 obtain ⟨h1, h2⟩ := rdAll_sound hE hf hx hus
 obtain ⟨g1, g2⟩ := vals_of (w := w) (G := G) h1 h2
 obtain ⟨pf, hL⟩ := hoL _ _ _ _ hc
 have hfun := (rd_sound hE hpx hf hfv).1
 refine ⟨fun _ _ => W_fn _, ?_⟩
 rw [call_semAt hop]
 generalize hval : a.eval (.tmp t) = v at hfun
 cases hfun with
 | yield _ m l y tmps caps hy hl hr hlen hsz hcap =>
   have hvr : VR N w G.callee.fix G.callee.heap (.func (.yield l) #[] #[]) (.func k (.ptr m 0 :: caps) []) := .yield k m l y tmps caps hy hl hr hlen hsz hcap
   rw [List.append_nil] at hc
   obtain ⟨tmps', hyr, hround⟩ := hro k y m l tmps caps args out st.heap h' hy hc w G.callee (xs.map a.eval) (between_callee hf) hvr g1 g2
   have hrun : (execOp a.eval o).run P w = .ok (.round l y.fn tmps' y.assign y.body) w := by
    simp only [execOp, hop, resolve, Sem.run_bind, hval, Deferred.ofValue, Sem.run_pure, Result.andThen_ok, invoke]
    simpa using hyr
   rw [hrun, Oper.uponIn_round]
   refine ⟨W_depth, (hround r (n - 1)).mono ?_⟩
   rintro e w' ⟨G2, hR, he, hb2⟩
   have := out_back nm ho hf hQ hv hb hR he hb2
   cases e <;> exact this
 | func _ fs cs _ _ hy e1 e2 hfs hcs =>
   have hrun : (execOp a.eval o).run P w = .ok (.enter (N.fn k) (fs ++ xs.map a.eval ++ cs)) w := by
    have := run_callFunc hF hL (fs ++ xs.map a.eval ++ cs) w
    simp only [execOp, hop, resolve, Sem.run_bind, hval, Deferred.ofValue, Sem.run_pure, Result.andThen_ok, invoke]
    exact this
   rw [hrun, Oper.uponIn_enter]
   refine ⟨W_depth, callsW ?_⟩
   refine (hob k _ out st.heap h' hc hy w G.callee (fs ++ xs.map a.eval ++ cs) (between_callee hf) (by simp [e1, e2]; simpa using h1) ?_).mono ?_
   ·intro i v p hv' hp
    by_cases hi : i < fs.size
    ·rw [Array.append_assoc, Array.getElem?_append_left hi] at hv'
     rw [List.append_assoc, List.getElem?_append_left (by omega)] at hp
     exact hfs i v p hv' hp
    ·rw [Array.append_assoc, Array.getElem?_append_right (by omega)] at hv'
     rw [List.append_assoc, List.getElem?_append_right (by omega), ← e1] at hp
     by_cases hi2 : i - fs.size < (xs.map a.eval).size
     ·rw [Array.getElem?_append_left hi2] at hv'
      rw [List.getElem?_append_left (by omega)] at hp
      exact g2 _ v p hv' hp
     ·rw [Array.getElem?_append_right (by omega)] at hv'
      rw [List.getElem?_append_right (by omega), ← g1] at hp
      exact hcs _ v p hv' hp
   ·rintro e w' ⟨G2, hR, he, hb2⟩
    have := out_back nm ho hf hQ hv hb hR he hb2
    cases e <;> exact this
theorem bstep_sound {L : Nat → Option PFunc} (hF : FnsOK N P L) (hE : EnvOk E N) (hP : E.P = P) (nm : Names vs (lmap vs ops.toList)) (ho : ops[j]? = some o) (hf : FI N w G st a vs (lmap vs ops.toList)) {cf : CallF} (hcf : CallOK N P cf) {ob : OutF} (hob : OutOK N P ob) (hro : RoundOK N P ob)
  (hcL : ∀ k args h x, cf k args h = some x → ∃ f, L k = some f) (hoL : ∀ k args h x, ob k args h = some x → ∃ f, L k = some f) (hd : ∀ c, o.op ≠ .defer c) {po : PO} (hc : cOperB E vs ops.toList o = some po) {res : Option PV} {st1 : St} (hs : bstep cf ob j po st = some (res, st1)) (hQ : ¬ LetsOut Q)
  (hk : res = none → Next1 N w G a st1 vs ops.toList K) (hb : ∀ p, res = some p → Booms N w G a st1 vs (lmap vs ops.toList) p Q) : wpOpIn (W r) n P ops Q j K a w := by
 have plain : ∀ {po : PO}, cOperN E vs ops.toList o = some po → bstep cf ob j po st = some (res, st1) → wpOpIn (W r) n P ops Q j K a w := by
  intro po hc hs
  simp only [cOperN, Option.bind_eq_some_iff] at hc
  obtain ⟨p, hp, hc⟩ := hc
  split at hc
  ·simp at hc
  ·rename_i hnb
   simp only [Option.some.injEq] at hc
   subst hc
   rw [bstep_plain (by simpa using hnb)] at hs
   simp only [Option.map_eq_some_iff, Prod.mk.injEq] at hs
   obtain ⟨st2, h1, rfl, rfl⟩ := hs
   refine wpOpIn_of (fun o' c ho' => ?_) hQ (step1_sound hF hE hP nm ho hf hcf hcL hp h1 (hk rfl))
   rw [ho] at ho'
   simp only [Option.some.injEq] at ho'
   subst ho'
   exact hd c
 unfold cOperB at hc
 split at hc
 ·rename_i dst f xs ts ty pos aft
  split at hc
  ·simp only [Option.bind_eq_some_iff, Option.map_eq_some_iff] at hc
   obtain ⟨k, hk', ps, hps, rfl⟩ := hc
   simp only [bstep] at hs
   split at hs
   ·rename_i us hus
    unfold wpOpIn
    simp only [ho, Region.wanted, if_true]
    split at hs
    ·rename_i u h' hcall
     simp only [Option.some.injEq, Prod.mk.injEq] at hs
     obtain ⟨rfl, rfl⟩ := hs
     exact bcall_sound hF hE nm ho hf hob hoL rfl hk' hps hus hcall hQ (fun u' e => by cases e; exact hk rfl) (fun p e => by cases e)
    ·rename_i v h' hcall
     simp only [Option.some.injEq, Prod.mk.injEq] at hs
     obtain ⟨rfl, rfl⟩ := hs
     exact bcall_sound hF hE nm ho hf hob hoL rfl hk' hps hus hcall hQ (fun u' e => by cases e) (fun p e => by cases e; exact hb _ rfl)
    ·simp at hs
   ·simp at hs
  ·exact plain hc hs
 ·rename_i dst t xs ts ty pos aft
  split at hc
  ·simp only [Option.bind_eq_some_iff, Option.map_eq_some_iff] at hc
   obtain ⟨px, hpx, ps, hps, rfl⟩ := hc
   simp only [bstep] at hs
   split at hs
   ·rename_i k first captured us hfv hus
    unfold wpOpIn
    simp only [ho, Region.wanted, if_true]
    split at hs
    ·rename_i u h' hcall
     simp only [Option.some.injEq, Prod.mk.injEq] at hs
     obtain ⟨rfl, rfl⟩ := hs
     exact bcallv_sound hF hE nm ho hf hob hro hoL rfl hpx hps hfv hus hcall hQ (fun u' e => by cases e; exact hk rfl) (fun p e => by cases e)
    ·rename_i v h' hcall
     simp only [Option.some.injEq, Prod.mk.injEq] at hs
     obtain ⟨rfl, rfl⟩ := hs
     exact bcallv_sound hF hE nm ho hf hob hro hoL rfl hpx hps hfv hus hcall hQ (fun u' e => by cases e) (fun p e => by cases e; exact hb _ rfl)
    ·simp at hs
   ·simp at hs
  ·exact plain hc hs
 ·exact plain hc hs
end
end PI
set_option linter.unusedSimpArgs false
set_option linter.unusedVariables false
namespace PI
open Go
def wpN (r : Option Nat) (fid : FuncId) (P : Program) (c : Code) (Q : Exit → Act → World → Prop) (a : Act) (w : World) : Prop :=
 ∀ (b : Frame) (k : List Item) (cs : List Frame), b.roundOf = r → b.fn = fid →
   ∃ e a' w', Q e a' w' ∧ ArrivesIn (Machine.fenced P (W r)) P (lone (b.atR a (.code c :: k)) cs w) b k cs e a' w'
section
variable {P : Program} {r : Option Nat} {fid : FuncId} {n : Nat} {Q : Exit → Act → World → Prop} {a : Act} {w : World}
theorem wpN_of {c : Code} (h : c.wpIn (W r) n P Q a w) : wpN r fid P c Q a w := fun b k cs hro _ => h b k cs hro (W_fn _) (W_room _)
theorem wpN_mono {c : Code} {Q' : Exit → Act → World → Prop} (h : wpN r fid P c Q a w) (hq : ∀ e a w, Q e a w → Q' e a w) : wpN r fid P c Q' a w :=
 fun b k cs hro hb => let ⟨e, a', w', q, r⟩ := h b k cs hro hb; ⟨e, a', w', hq _ _ _ q, r⟩
theorem wpN_skip (h : Q .normal a w) : wpN r fid P .skip Q a w := fun _ _ _ _ _ => ⟨.normal, a, w, h, .one (fencedW _) stepR_skip⟩
theorem wpN_exit {id : Nat} (h : Q (.exit id) a w) : wpN r fid P (.exit id) Q a w :=
 fun _ k _ _ _ => ⟨.exit id, a, w, h, fun _ hk => .one (fencedW _) (stepR_exit hk), fun _ hk => ⟨k, hk, .refl _⟩⟩
theorem wpN_ret (h : Q .ret a w) : wpN r fid P .ret Q a w :=
 fun _ k _ _ _ => ⟨.ret, a, w, h, fun hn => ⟨_, .one (fencedW _) (stepR_ret hn)⟩, fun _ => ⟨k, .refl _⟩⟩
theorem wpN_seq {x y : Code} (h : wpN r fid P x (Exit.then (wpN r fid P y Q) Q) a w) : wpN r fid P (.seq x y) Q a w := by
 intro b k cs hro hb
 have h0 : (lone (b.atR a (.code (.seq x y) :: k)) cs w).fenced P (W r) := fencedW _
 obtain ⟨e, a₁, w₁, hq, harr⟩ := h b (.code y :: k) cs hro hb
 cases e with
 | normal =>
   obtain ⟨e₂, a₂, w₂, hq₂, harr₂⟩ := hq b k cs hro hb
   exact ⟨e₂, a₂, w₂, hq₂, .of_steps (.head h0 stepR_seq harr) harr₂⟩
 | exit id => exact ⟨_, a₁, w₁, hq, .of_steps (.one h0 stepR_seq) (.pass (x := .code y) rfl (fun _ _ => .inl (by simp)) harr)⟩
 | goto l => exact ⟨_, a₁, w₁, hq, .of_steps (.one h0 stepR_seq) (.pass (x := .code y) rfl (fun _ _ => .inl (by simp)) harr)⟩
 | ret => exact ⟨_, a₁, w₁, hq, .of_steps (.one h0 stepR_seq) (.pass (x := .code y) rfl (fun _ _ => .inl (by simp)) harr)⟩
 | panic ch => exact ⟨_, a₁, w₁, hq, .of_steps (.one h0 stepR_seq) (.pass (x := .code y) rfl (fun _ _ => .inl (by simp)) harr)⟩
 | outgrown => exact ⟨_, a₁, w₁, hq, .of_steps (.one h0 stepR_seq) (.pass (x := .code y) rfl (fun _ _ => .inl (by simp)) harr)⟩
theorem wpN_cond {c : Operand} {x y : Code} {t : Bool} (hc : a.eval c = .bool t) (h : wpN r fid P (if t then x else y) Q a w) : wpN r fid P (.cond c x y) Q a w :=
 fun b k cs hro hb => let ⟨e, a', w', q, r⟩ := h b k cs hro hb; ⟨e, a', w', q, .of_steps (.one (fencedW _) (stepR_cond hc)) r⟩
theorem wpN_block {id : Nat} {c : Code} (h : wpN r fid P c (Exit.inBlock id Q) a w) : wpN r fid P (.block id c) Q a w := by
 intro b k cs hro hb
 have h0 : (lone (b.atR a (.code (.block id c) :: k)) cs w).fenced P (W r) := fencedW _
 obtain ⟨e, a₁, w₁, hq, harr⟩ := h b (.inBlock id :: k) cs hro hb
 cases e with
 | normal => exact ⟨.normal, a₁, w₁, hq, .head h0 stepR_block (StepsIn.trans harr (.one (fencedW _) stepR_inBlock))⟩
 | exit id' =>
   by_cases hid : id' = id
   ·simp only [Exit.inBlock, hid, if_true] at hq
    exact ⟨.normal, a₁, w₁, hq, .head h0 stepR_block (harr.1 k (by simp [exitTo, hid]))⟩
   ·simp only [Exit.inBlock, hid, if_false] at hq
    have this : (id == id') = false := by simp; exact fun h => hid h.symm
    have hx : exitTo id' (.inBlock id :: k) = exitTo id' k := by simp [exitTo, this]
    exact ⟨.exit id', a₁, w₁, hq, fun k' hk => .head h0 stepR_block (harr.1 k' (by rw [hx]; exact hk)),
     fun hr' hk => let ⟨k₁, h1, h2⟩ := harr.2 hr' (by rw [hx]; exact hk); ⟨k₁, h1, .head h0 stepR_block h2⟩⟩
 | goto l =>
   have hx : gotoIn l (.inBlock id :: k) = gotoIn l k := by simp [gotoIn]
   exact ⟨_, a₁, w₁, hq, fun k' hk => .head h0 stepR_block (harr.1 k' (by rw [hx]; exact hk)),
    fun hr' hk => let ⟨k₁, h1, h2⟩ := harr.2 hr' (by rw [hx]; exact hk); ⟨k₁, h1, .head h0 stepR_block h2⟩⟩
 | ret => exact ⟨_, a₁, w₁, hq, .of_steps (.one h0 stepR_block) harr⟩
 | panic ch => exact ⟨_, a₁, w₁, hq, .of_steps (.one h0 stepR_block) harr⟩
 | outgrown => exact ⟨_, a₁, w₁, hq, .of_steps (.one h0 stepR_block) harr⟩
def roundsN (r : Option Nat) (fid : FuncId) (P : Program) (c : Code) (Q : Exit → Act → World → Prop) : Nat → Act → World → Prop
 | 0, _, _ => False
 | m + 1, a, w => wpN r fid P c (Exit.then (roundsN r fid P c Q m) Q) a w
theorem roundsN_succ {c : Code} {m : Nat} : roundsN r fid P c Q (m + 1) a w = wpN r fid P c (Exit.then (roundsN r fid P c Q m) Q) a w := rfl
theorem wpN_loop_rounds {c : Code} (m : Nat) (h : roundsN r fid P c Q m a w) : wpN r fid P (.loop c) Q a w := by
 intro b k cs hro hb
 have key : ∀ m a w, roundsN r fid P c Q m a w →
   ∃ e a' w', Q e a' w' ∧ ArrivesIn (Machine.fenced P (W r)) P (lone (b.atR a (.code c :: .inLoop c :: k)) cs w) b k cs e a' w' := by
  intro m
  induction m with
  | zero => intro a w h; exact h.elim
  | succ m ih =>
    intro a w h
    obtain ⟨e, a₁, w₁, hq, harr⟩ := h b (.inLoop c :: k) cs hro hb
    cases e with
    | normal =>
      obtain ⟨e₂, a₂, w₂, hq₂, harr₂⟩ := ih a₁ w₁ hq
      exact ⟨e₂, a₂, w₂, hq₂, .of_steps (StepsIn.trans harr (.one (fencedW _) stepR_inLoop)) harr₂⟩
    | exit id => exact ⟨_, a₁, w₁, hq, .pass (x := .inLoop c) rfl (fun _ _ => .inl (by simp)) harr⟩
    | goto l => exact ⟨_, a₁, w₁, hq, .pass (x := .inLoop c) rfl (fun _ _ => .inl (by simp)) harr⟩
    | ret => exact ⟨_, a₁, w₁, hq, .pass (x := .inLoop c) rfl (fun _ _ => .inl (by simp)) harr⟩
    | panic ch => exact ⟨_, a₁, w₁, hq, .pass (x := .inLoop c) rfl (fun _ _ => .inl (by simp)) harr⟩
    | outgrown => exact ⟨_, a₁, w₁, hq, .pass (x := .inLoop c) rfl (fun _ _ => .inl (by simp)) harr⟩
 obtain ⟨e, a', w', hq, harr⟩ := key m a w h
 exact ⟨e, a', w', hq, .of_steps (.one (fencedW _) stepR_loop) harr⟩
theorem wpN_rangeFunc {g : Operand} {ps : Array Tmp} {assign body : Code} {l : Nat} {mark : List Deferred} {w₁ : World} {d : Deferred} {f : FuncId} {args : Array Value}
  (he : (Instr.enterLoop fid a.tmps ps assign body none).run P w = .ok (l, mark) w₁) (hres : (resolve a.eval (rangeCall g l) 0).run P w₁ = .ok d w₁) (hinv : (invoke d.target d.args).run P w₁ = .ok (.enter f args) w₁)
  (hc : Calls P f args w₁ fun
   | .returned _, w₃ => ∃ j w₄, (Instr.endLoop l).run P w₃ = .ok j w₄ ∧ (match j with
     | none => Q .normal { a with defers := mark ++ a.defers } w₄
     | some c => wpN none fid P c Q { a with defers := mark ++ a.defers } w₄)
   | .panicked chain, w₃ => Q (.panic chain) { a with defers := mark ++ a.defers } w₃
   | .outgrown, _ => LetsOut Q) : wpN none fid P (.rangeFunc g ps assign body) Q a w := by
 intro b k cs hro hb
 subst hb
 rw [← hro] at he
 have henter := stepR_rangeFunc (P := P) (b := b) (a := a) (k := k) (cs := cs) (w := w) he hres hinv
 obtain ⟨e, w₃, fr, hR, hsteps, hfn, hleave⟩ := (callsW (r := none) (n := 0) hc).2 (b.atR { a with defers := mark ++ a.defers } (.inRangeFunc l :: k) :: cs) (W_room _)
 cases e with
 | outgrown =>
   obtain ⟨a₀, w₀, hq⟩ := hR
   exact ⟨.outgrown, a₀, w₀, hq, .inr (Outgrown.of_steps (.one henter) hsteps)⟩
 | returned v =>
   obtain ⟨j, w₄, hend, hj⟩ := hR
   have sback : StepsIn (Machine.fenced P (W none)) P (lone (b.atR a (.code (.rangeFunc g ps assign body) :: k)) cs w) (lone (b.atR { a with defers := mark ++ a.defers } ((j.map Item.code).toList ++ k)) cs w₄) := by
    refine .head (fencedW _) henter (StepsIn.trans hsteps (.head (fencedW _) ?_ (.one (fencedW _) (stepR_endRangeFunc (b := b) (a := { a with defers := mark ++ a.defers }) (k := k) hend))))
    rw [← finish_atR_inRangeFunc l v]; exact step_leave_returned hleave
   cases j with
   | none => exact ⟨.normal, _, w₄, hj, sback⟩
   | some c =>
     obtain ⟨e₂, a₂, w₅, hq, hr⟩ := hj b k cs hro rfl
     exact ⟨e₂, a₂, w₅, hq, .of_steps sback hr⟩
 | panicked chain =>
   refine ⟨.panic chain, _, w₃, hR, .inRangeFunc l :: k, .head (fencedW _) henter (StepsIn.trans hsteps (.one (fencedW _) ?_))⟩
   rw [← Frame.raise_atR]; exact step_leave_panicked hleave
def endM (P : Program) (fn : Func) (R : Ending → World → Prop) : Exit → Act → World → Prop
 | .normal, a, w | .ret, a, w => LeavesInM (W none) 0 P fn a.tmps R a.defers .returning w
 | .panic chain, a, w => LeavesInM (W none) 0 P fn a.tmps R a.defers (.panicking chain) w
 | _, _, _ => False
theorem calls_of_wpN {f : FuncId} {fn : Func} {c : Code} {args : Array Value} {R : Ending → World → Prop} (hf : P.funcs[f]? = some fn) (hb : fn.body = some c)
  (h : wpN none f P c (endM P fn R) { tmps := args ++ Array.replicate (fn.ntmps - args.size) undef, defers := [] } w) : Calls P f args w R := by
 refine calls_of_W (r := none) (n := 0) ⟨trivial, fun cs hr => ?_⟩
 let b : Frame := { (default : Frame) with fn := f, kind := .normal, roundOf := none }
 have henter : Frame.enter P f args .normal = b.atR { tmps := args ++ Array.replicate (fn.ntmps - args.size) undef, defers := [] } [.code c] := by
  simp [Frame.enter, Frame.atR, hf, hb, b]
 obtain ⟨e, a', w', hq, harr⟩ := h b [] cs rfl rfl
 rw [← henter] at harr
 cases e with
 | normal =>
   obtain ⟨e', w'', fr', hR, hs, hfn, hl⟩ := leaves_stepsInM a'.defers .returning w' { b.atR a' [] with mode := .returning } cs rfl rfl rfl hf rfl trivial (W_room _) hq
   exact ⟨e', w'', fr', hR, ComesIn.of_steps (StepsIn.trans harr (.one (fencedW _) (stepR_end rfl))) hs, hfn, hl⟩
 | ret =>
   obtain ⟨todo, hs₀⟩ := harr.1 rfl
   obtain ⟨e', w'', fr', hR, hs, hfn, hl⟩ := leaves_stepsInM a'.defers .returning w' { b.atR a' todo with mode := .returning } cs rfl rfl rfl hf rfl trivial (W_room _) hq
   exact ⟨e', w'', fr', hR, ComesIn.of_steps hs₀ hs, hfn, hl⟩
 | panic chain =>
   obtain ⟨todo, hs₀⟩ := harr
   obtain ⟨e', w'', fr', hR, hs, hfn, hl⟩ := leaves_stepsInM a'.defers (.panicking chain) w' { b.atR a' todo with mode := .panicking chain } cs rfl rfl rfl hf rfl trivial (W_room _) hq
   exact ⟨e', w'', fr', hR, ComesIn.of_steps hs₀ hs, hfn, hl⟩
 | exit id => exact hq.elim
 | goto l => exact hq.elim
 | outgrown => exact hq.elim
theorem roundN {l : Nat} {f : FuncId} {fn : Func} {tmps : Array Value} {assign body : Code} {R : Ending → World → Prop} (hfn : P.funcs[f]? = some fn)
  (h : wpN (some l) f P assign (Exit.then (fun a₁ w₁ => ∃ w₂, (Instr.beginRound l).run P w₁ = .ok () w₂ ∧ wpN (some l) f P body (roundPostP P l R) a₁ w₂) (fun _ _ _ => False)) { tmps := tmps, defers := [] } w) :
  RoundIn (W r) n P l f tmps assign body w R := by
 refine ⟨W_fn _, fun c cs hr => ?_⟩
 let b : Frame := { (default : Frame) with fn := f, kind := .normal, roundOf := some l }
 have hb0 : Frame.round l f tmps assign body .normal = b.atR { tmps := tmps, defers := [] } [.code assign, .beginRound, .code body] := by
  simp [Frame.round, Frame.atR, b]
 obtain ⟨e, a₁, w₁, hq, harr⟩ := h b [.beginRound, .code body] (c :: cs) rfl rfl
 rw [← hb0] at harr
 cases e with
 | normal =>
   obtain ⟨w₂, hbr, hbody⟩ := hq
   have s1 : StepsIn (Machine.fenced P (W (some l))) P (lone (b.atR a₁ [.beginRound, .code body]) (c :: cs) w₁) (lone (b.atR a₁ [.code body]) (c :: cs) w₂) :=
    .one (fencedW _) (stepR_beginRound rfl hbr)
   obtain ⟨e₂, a₂, w₃, hq₂, harr₂⟩ := hbody b [] (c :: cs) rfl rfl
   cases e₂ with
   | normal =>
     obtain ⟨v, w₄, hend, hR⟩ := hq₂
     exact ⟨.returned v, w₄, hR, (StepsIn.trans harr s1).trans (StepsIn.trans harr₂ (.one (fencedW _) (stepR_round_end rfl rfl hend)))⟩
   | panic chain =>
     obtain ⟨hd, hR⟩ := hq₂
     obtain ⟨todo, hs⟩ := harr₂
     refine ⟨.panicked chain, w₃, hR, (StepsIn.trans harr s1).trans (StepsIn.trans hs (.one (fencedW _) (step_round_panic (fn := fn) rfl ?_ hfn)))⟩
     exact hd
   | ret =>
     obtain ⟨v, w₄, hend, hR⟩ := hq₂
     obtain ⟨k₁, hs⟩ := harr₂.2 rfl
     exact ⟨.returned v, w₄, hR, (StepsIn.trans harr s1).trans (StepsIn.trans hs (.one (fencedW _) (stepR_round_ret rfl rfl hend)))⟩
   | exit id =>
     obtain ⟨v, w₄, hend, hR⟩ := hq₂
     obtain ⟨k₁, hk, hs⟩ := harr₂.2 rfl rfl
     exact ⟨.returned v, w₄, hR, (StepsIn.trans harr s1).trans (StepsIn.trans hs (.one (fencedW _) (stepR_round_exit rfl rfl hk hend)))⟩
   | goto t => exact hq₂.elim
   | outgrown => exact hq₂.elim
 | exit id => exact hq.elim
 | goto t => exact hq.elim
 | ret => exact hq.elim
 | panic chain => exact hq.elim
 | outgrown => exact hq.elim
end
end PI
set_option linter.unusedSimpArgs false
set_option linter.unusedVariables false
namespace PI
open Go Go.RowKit
section
variable {E : Env} {N : Nm} {w : World} {G : GS} {st : St} {a : Act} {vs : List Tmp} {lm : Nat → Option Tmp} {P : Program}
theorem turn_obj (hf : FI N w G st a vs lm) {n b : Nat} {ob' : PObj} {mob : Obj} (hb : G.heap n = some b) (how : G.ow b = some (.hobj n))
  (hnf : ∀ o, ¬ G.fix b o) (hnc : w.shape? b = none) (hlo : ∀ s, loopOf w b = some s → loopOf { w with heap := w.heap.setIfInBounds b mob } b = some s)
  (hR : ob' = .gone ∨ ObjR N { w with heap := w.heap.setIfInBounds b mob } G n b ob') :
  Ext w G { w with heap := w.heap.setIfInBounds b mob } G ∧ FI N { w with heap := w.heap.setIfInBounds b mob } G (hset st n ob') a vs lm := by
 let w' : World := { w with heap := w.heap.setIfInBounds b mob }
 have hblt : b < w.heap.size := hf.owlt _ _ how
 have hother : ∀ x, x ≠ b → w'.heap[x]? = w.heap[x]? := fun x hx => by
  simp only [w', Array.getElem?_setIfInBounds]; rw [if_neg (by omega)]
 have hext : Ext w G w' G := by
  refine ⟨rfl, rfl, rfl, by simp [w'], fun x _ hxo => hother x (by rintro rfl; rw [how] at hxo; simp at hxo), ?_, fun _ _ h => .inl h, fun _ h => .inr h, fun _ _ h => h, .one b (fun k _ hk => hother k hk) (fun s hx => by rw [hnc] at hx; simp at hx) hlo, rfl⟩
  intro x o' hfx
  have hxb : x ≠ b := by rintro rfl; exact hnf _ hfx
  refine ⟨hfx, ?_⟩
  simp only [World.cell?, hother x hxb]
 have hkeep : Keep (fun k => k = .hobj n) w G w' G := by
  refine ⟨?_, fun _ _ h => h⟩
  intro x k hx hnk
  have hxb : x ≠ b := by rintro rfl; rw [how] at hx; simp at hx; exact hnk hx.symm
  exact ⟨hx, hother x hxb, fun _ h => h⟩
 have hf1 : FI N w' G (hset st n ob') a vs lm := by
  refine ⟨hf.len, fun i t' u' h1 h2 => (hf.var i t' u' h1 h2).keep hext hkeep (by simp) (by simp), fun i t' u' h1 h2 => (hf.loc i t' u' h1 h2).keep hext hkeep (by simp) (by simp), hf.tv, hf.tl, hf.defers, hf.gen, ?_, ?_, ?_, ?_⟩
  ·intro b' k hb'; simpa [w'] using hf.owlt _ _ hb'
  ·intro b' k hb'; simpa [w'] using hf.fixlt _ _ hb'
  ·exact hf.heap.keepBut hext hkeep (fun m k hne => ⟨by simp; omega, by simp⟩) (fun _ => hR.imp id fun hR => ⟨b, hb, how, hR⟩)
  ·intro m b' h; have := hf.hdom _ _ h; simpa [hset] using this
 exact ⟨hext, hf1⟩
theorem new_obj (hf : FI N w G st a vs lm) {ob : PObj} {mob : Obj}
  (hR : ∀ G', G' = G.more w.heap.size st.heap.length → Ext w G (w.alloc mob) G' → ObjR N (w.alloc mob) G' st.heap.length w.heap.size ob) :
  Ext w G (w.alloc mob) (G.more w.heap.size st.heap.length) ∧ FI N (w.alloc mob) (G.more w.heap.size st.heap.length) { st with heap := st.heap ++ [ob] } a vs lm := by
 let G' : GS := G.more w.heap.size st.heap.length
 have hext : Ext w G (w.alloc mob) G' := by
  refine ⟨rfl, rfl, rfl, by simp, fun b hb _ => alloc_heap_old hb, fun b o h => ⟨h, alloc_cell_old (hf.fixlt _ _ h)⟩, fun _ _ h => .inl h, ?_, ?_, .same fun k hk => alloc_heap_old hk, rfl⟩
  ·intro b hb
   by_cases hlt : b < w.heap.size
   ·refine .inr ?_
    simp only [G', GS.more] at hb
    rw [if_neg (by omega)] at hb
    exact hb
   ·exact .inl (by omega)
  ·intro n b h
   have := hf.hdom _ _ h
   simp only [G', GS.more]
   rw [if_neg (by omega)]; exact h
 have hkeep : Keep (fun _ => False) w G (w.alloc mob) G' := by
  refine ⟨?_, fun _ _ h => h⟩
  intro b k hb _
  have hlt := hf.owlt _ _ hb
  refine ⟨?_, alloc_heap_old hlt, fun _ h => h⟩
  simp only [G', GS.more]
  rw [if_neg (by omega)]; exact hb
 have hf1 : FI N (w.alloc mob) G' { st with heap := st.heap ++ [ob] } a vs lm := by
  refine ⟨hf.len, fun i t u h1 h2 => (hf.var i t u h1 h2).keep hext hkeep (fun h => h) (fun _ _ _ h => h), fun j t u h1 h2 => (hf.loc j t u h1 h2).keep hext hkeep (fun h => h) (fun _ _ _ h => h), hf.tv, hf.tl, hf.defers, hf.gen, ?_, ?_, ?_, ?_⟩
  ·intro b k hb
   simp only [G', GS.more] at hb
   split at hb
   ·simp; omega
   ·have := hf.owlt _ _ hb; simp; omega
  ·intro b o h; have := hf.fixlt _ _ h; simp; omega
  ·exact hf.heap.push hext hkeep (fun _ _ _ => ⟨fun h => h, fun h => h⟩) (.inr ⟨w.heap.size, by simp [G', GS.more], by simp [G', GS.more], hR G' rfl hext⟩)
  ·intro n b h
   simp only [G', GS.more] at h
   simp only [List.length_append, List.length_singleton]
   split at h
   ·omega
   ·have := hf.hdom _ _ h; omega
 exact ⟨hext, hf1⟩
theorem new_other (hf : FI N w G st a vs lm) (mob : Obj) : Ext w G (w.alloc mob) G ∧ FI N (w.alloc mob) G st a vs lm := by
 have hext : Ext w G (w.alloc mob) G :=
  ⟨rfl, rfl, rfl, by simp, fun b hb _ => alloc_heap_old hb, fun b o h => ⟨h, alloc_cell_old (hf.fixlt _ _ h)⟩, fun _ _ h => .inl h, fun _ h => .inr h, fun _ _ h => h, .same fun k hk => alloc_heap_old hk, rfl⟩
 have hkeep : Keep (fun _ => False) w G (w.alloc mob) G := ⟨fun b k hb _ => ⟨hb, alloc_heap_old (hf.owlt _ _ hb), fun _ h => h⟩, fun _ _ h => h⟩
 exact ⟨hext, hf.ext hext hkeep hf.gen (fun b k h => by have := hf.owlt _ _ h; simp; omega) (fun b o h => by have := hf.fixlt _ _ h; simp; omega)⟩
theorem FI.setDf (hf : FI N w G st a vs lm) (ds : List Deferred) : FI N w { G with df := ds } st { a with defers := ds } vs lm :=
 ⟨hf.len, hf.var, hf.loc, hf.tv, hf.tl, rfl, hf.gen, hf.owlt, hf.fixlt, hf.heap, hf.hdom⟩
theorem Ext.setDf {w' : World} {G' : GS} (h : Ext w G w' G') (ds : List Deferred) : Ext w { G with df := ds } w' { G' with df := ds } :=
 ⟨h.os, h.tape, h.output, h.size, h.same, h.fix, h.newfix, h.own, h.heap, h.shape, rfl⟩
def ExtD (w : World) (G : GS) (w' : World) (G' : GS) : Prop := Ext w { G with df := G'.df } w' G'
theorem ExtD.of {w' : World} {G' : GS} (h : Ext w G w' G') : ExtD w G w' G' := by
 have := h.setDf G'.df
 exact this
theorem ExtD.refl (w : World) (G : GS) : ExtD w G w G := .of (Ext.refl w G)
theorem ExtD.trans {w1 w2 : World} {G1 G2 : GS} (h : ExtD w G w1 G1) (k : ExtD w1 G1 w2 G2) : ExtD w G w2 G2 := by
 have h1 := Ext.setDf h G2.df
 exact Ext.trans h1 k
theorem ExtD.to {w' : World} {G' : GS} (h : ExtD w G w' G') (hd : G'.df = G.df) : Ext w G w' G' := by
 unfold ExtD at h
 rw [hd] at h
 exact h
def Marks (w w' : World) (G' : GS) (ms : List Deferred) : Prop :=
 ∃ bs : List Nat, ms = bs.map (fun b => { target := .collected b, args := #[] }) ∧ bs.Nodup ∧ ∀ b ∈ bs, w.heap.size ≤ b ∧ w'.heap[b]? = some (.deferred (some [])) ∧ G'.ow b = none
theorem Marks.nil (w w' : World) (G' : GS) : Marks w w' G' [] := ⟨[], rfl, List.nodup_nil, by simp⟩
theorem Marks.lt {w' : World} {G' : GS} {b : Nat} (h : w'.heap[b]? = some (.deferred (some []))) : b < w'.heap.size := (Array.getElem?_eq_some_iff.1 h).1
theorem Marks.join {w1 w2 : World} {G1 G2 : GS} {ms1 ms2 : List Deferred} (hs : w.heap.size ≤ w1.heap.size) (h1 : Marks w w1 G1 ms1) (e : ExtD w1 G1 w2 G2) (h2 : Marks w1 w2 G2 ms2) : Marks w w2 G2 (ms2 ++ ms1) := by
 obtain ⟨b1, rfl, n1, k1⟩ := h1
 obtain ⟨b2, rfl, n2, k2⟩ := h2
 refine ⟨b2 ++ b1, by simp, ?_, ?_⟩
 ·rw [List.nodup_append]
  refine ⟨n2, n1, ?_⟩
  rintro x hx y hy rfl
  have := (k2 x hx).1
  have := Marks.lt (G' := G1) (k1 x hy).2.1
  omega
 ·intro b hb
  rcases List.mem_append.1 hb with hb | hb
  ·obtain ⟨j1, j2, j3⟩ := k2 b hb
   exact ⟨by omega, j2, j3⟩
  ·obtain ⟨j1, j2, j3⟩ := k1 b hb
   have hlt := Marks.lt (G' := G1) j2
   refine ⟨j1, (Ext.same e b hlt j3).trans j2, ?_⟩
   cases hx : G2.ow b with
   | none => rfl
   | some k =>
     rcases Ext.own e b (by rw [hx]; simp) with h | h
     ·omega
     ·exact absurd j3 h
end
end PI
set_option linter.unusedSimpArgs false
set_option linter.unusedVariables false
namespace PI
open Go Go.RowKit
def dstsOk (nt : Nat) (ops : List Oper) : Bool := ops.all fun o => match o.dst with | some t => decide (t < nt) | none => true
def noDefer (ops : List Oper) : Bool := ops.all fun o => match o.op with | .defer _ => false | _ => true
def compR (E : Env) (nt : Nat) (vs : List Tmp) (ops : Array Oper) (draw : Bool) : Option (List PO) :=
 if onceIn vs ops.toList && dstsOk nt ops.toList && noDefer ops.toList then
  (cOpers E vs ops.toList ops.toList).bind fun pos => if draw && !orderOk ops pos then none else some pos
 else none
def compB (E : Env) (nt : Nat) (vs : List Tmp) (ops : Array Oper) (draw : Bool) : Option (List PO) :=
 if onceIn vs ops.toList && dstsOk nt ops.toList && noDefer ops.toList then
  (cOpersB E vs ops.toList ops.toList).bind fun pos => if draw && !orderOk ops pos then none else some pos
 else none
def compRaise (E : Env) (nt : Nat) (vs : List Tmp) (ops : Array Oper) : Option (List PO × Nat × PX) :=
 if onceIn vs ops.toList && dstsOk nt ops.toList && noDefer ops.toList then
  match ops.toList.drop (ops.size - 2) with
  | [{ dst := some d, op := .makeInterface T x, guard := none, .. }, { op := .panic (.tmp d'), guard := none, .. }] =>
    match E.P.underlying T with
    | none | some (.interface _) => none
    | some _ => if d = d' ∧ (idxIn d vs 0).isNone ∧ 2 ≤ ops.size then (cOpers E vs ops.toList (ops.toList.take (ops.size - 2))).bind fun pos => (cx E vs ops.toList x).bind fun px => (idxIn T E.pt 0).map fun i => (pos, i + 1, px) else none
  | _ => none
 else none
def compDefer (E : Env) (nt : Nat) (vs : List Tmp) (ops : Array Oper) : Option (Nat × List PX) :=
 match ops.toList with
 | [{ dst := some d, op := .makeFunc (.func f) first caps, guard := none, .. }, { dst := none, op := .defer { callee := .value (.tmp d'), args, .. }, guard := none, .. }] =>
   if d = d' ∧ (idxIn d vs 0).isNone ∧ d < nt ∧ first.toList = [] ∧ args.toList = [] then (E.inv f).bind fun k => (cxs E vs [] caps.toList).map fun ps => (k, ps) else none
 | _ => none
inductive Cmp (E : Env) (nt : Nat) (vs : List Tmp) : Code → PC → Prop where
 | skip : Cmp E nt vs .skip .skip
 | region (id : Nat) (ops : Array Oper) (d : Bool) (pos : List PO) (h : compR E nt vs ops d = some pos) : Cmp E nt vs (.region id ops d) (.region pos)
 | bregion (id : Nat) (ops : Array Oper) (d : Bool) (pos : List PO) (h : compB E nt vs ops d = some pos) : Cmp E nt vs (.region id ops d) (.bregion pos)
 | raise (id : Nat) (ops : Array Oper) (pos : List PO) (t : Nat) (px : PX) (h : compRaise E nt vs ops = some (pos, t, px)) : Cmp E nt vs (.region id ops false) (.raise pos t px)
 | branch (id : Nat) (ops : Array Oper) (d : Bool) (pos : List PO) (c : Operand) (px : PX) (x y : Code) (px1 px2 : PC) (h : compR E nt vs ops d = some pos) (hc : cx E vs ops.toList c = some px) (hx : Cmp E nt vs x px1) (hy : Cmp E nt vs y px2) :
   Cmp E nt vs (.seq (.region id ops d) (.cond c x y)) (.branch pos px px1 px2)
 | branchSeq (id : Nat) (ops : Array Oper) (d : Bool) (pos : List PO) (c : Operand) (px : PX) (x y r : Code) (px1 px2 pr : PC) (h : compR E nt vs ops d = some pos) (hc : cx E vs ops.toList c = some px) (hx : Cmp E nt vs x px1) (hy : Cmp E nt vs y px2) (hr : Cmp E nt vs r pr) :
   Cmp E nt vs (.seq (.region id ops d) (.seq (.cond c x y) r)) (.seq (.branch pos px px1 px2) pr)
 | bbranch (id : Nat) (ops : Array Oper) (d : Bool) (pos : List PO) (c : Operand) (px : PX) (x y : Code) (px1 px2 : PC) (h : compB E nt vs ops d = some pos) (hc : cx E vs ops.toList c = some px) (hx : Cmp E nt vs x px1) (hy : Cmp E nt vs y px2) :
   Cmp E nt vs (.seq (.region id ops d) (.cond c x y)) (.bbranch pos px px1 px2)
 | bbranchSeq (id : Nat) (ops : Array Oper) (d : Bool) (pos : List PO) (c : Operand) (px : PX) (x y r : Code) (px1 px2 pr : PC) (h : compB E nt vs ops d = some pos) (hc : cx E vs ops.toList c = some px) (hx : Cmp E nt vs x px1) (hy : Cmp E nt vs y px2) (hr : Cmp E nt vs r pr) :
   Cmp E nt vs (.seq (.region id ops d) (.seq (.cond c x y) r)) (.seq (.bbranch pos px px1 px2) pr)
 | guarded (id : Nat) (ops : Array Oper) (kd : Nat) (caps : List PX) (y : Code) (q : PC) (h : compDefer E nt vs ops = some (kd, caps)) (hy : Cmp E nt vs y q) : Cmp E nt vs (.seq (.region id ops false) y) (.guarded kd caps q)
 | seq (x y : Code) (p q : PC) (hx : Cmp E nt vs x p) (hy : Cmp E nt vs y q) : Cmp E nt vs (.seq x y) (.seq p q)
 | cond (c : Operand) (px : PX) (x y : Code) (p q : PC) (hc : cx E vs [] c = some px) (hx : Cmp E nt vs x p) (hy : Cmp E nt vs y q) : Cmp E nt vs (.cond c x y) (.branch [] px p q)
 | block (id : Nat) (x : Code) (p : PC) (hx : Cmp E nt vs x p) : Cmp E nt vs (.block id x) (.block id p)
 | loop (x : Code) (p : PC) (hx : Cmp E nt vs x p) : Cmp E nt vs (.loop x) (.loop p)
 | rangeF (g : Operand) (ps : Array Tmp) (as body : Code) (px : PX) (kb : Nat) (vars : List Tmp) (caps : List PX) (hg : cx E vs [] g = some px) (hl : (ps, kb, vars) ∈ E.lps) (hv : cxs E vs [] (vars.map .tmp) = some caps) :
   Cmp E nt vs (.rangeFunc g ps as body) (.rangeF px kb caps)
 | stuck (x : Code) : Cmp E nt vs x stuckC
 | exit (id : Nat) : Cmp E nt vs (.exit id) (.exit id)
 | ret : Cmp E nt vs .ret .ret
def regC (E : Env) (nt : Nat) (vs : List Tmp) (ops : Array Oper) (d : Bool) : PC :=
 if hasB E ops.toList then (match compB E nt vs ops d with | some pos => .bregion pos | none => stuckC)
 else match compR E nt vs ops d with
  | some pos => if d then .region pos else (match compRaise E nt vs ops with | some r => .raise r.1 r.2.1 r.2.2 | none => .region pos)
  | none => if d then stuckC else (match compRaise E nt vs ops with | some r => .raise r.1 r.2.1 r.2.2 | none => stuckC)
def brC (E : Env) (nt : Nat) (vs : List Tmp) (ops : Array Oper) (d : Bool) (c : Operand) (p q : PC) : PC :=
 if hasB E ops.toList then (match compB E nt vs ops d, cx E vs ops.toList c with | some pos, some px => .bbranch pos px p q | _, _ => stuckC)
 else match compR E nt vs ops d, cx E vs ops.toList c with
  | some pos, some px => .branch pos px p q
  | _, _ => stuckC
theorem regC_cmp {E : Env} {nt : Nat} {vs : List Tmp} (id : Nat) (ops : Array Oper) (d : Bool) : Cmp E nt vs (.region id ops d) (regC E nt vs ops d) := by
 unfold regC
 split
 ·split
  ·exact .bregion id ops d _ (by assumption)
  ·exact .stuck _
 ·split
  ·split
   ·exact .region id ops d _ (by assumption)
   ·rename_i hd
    have : d = false := by simpa using hd
    subst this
    split
    ·exact .raise id ops _ _ _ (by assumption)
    ·exact .region id ops false _ (by assumption)
  ·split
   ·exact .stuck _
   ·rename_i hd
    have : d = false := by simpa using hd
    subst this
    split
    ·exact .raise id ops _ _ _ (by assumption)
    ·exact .stuck _
theorem brC_cmp {E : Env} {nt : Nat} {vs : List Tmp} (id : Nat) (ops : Array Oper) (d : Bool) (c : Operand) {x y : Code} {p q : PC} (hx : Cmp E nt vs x p) (hy : Cmp E nt vs y q) : Cmp E nt vs (.seq (.region id ops d) (.cond c x y)) (brC E nt vs ops d c p q) := by
 unfold brC
 split
 ·split
  ·exact .bbranch id ops d _ c _ x y p q (by assumption) (by assumption) hx hy
  ·exact .stuck _
 ·split
  ·exact .branch id ops d _ c _ x y p q (by assumption) (by assumption) hx hy
  ·exact .stuck _
def isStuck : PC → Bool
 | .branch [] (.c .dead) .skip .skip => true
 | _ => false
theorem brC_seq {E : Env} {nt : Nat} {vs : List Tmp} (id : Nat) (ops : Array Oper) (d : Bool) (c : Operand) {x y r : Code} {p q pr : PC} (hx : Cmp E nt vs x p) (hy : Cmp E nt vs y q) (hr : Cmp E nt vs r pr) :
  Cmp E nt vs (.seq (.region id ops d) (.seq (.cond c x y) r)) (if isStuck (brC E nt vs ops d c p q) then stuckC else .seq (brC E nt vs ops d c p q) pr) := by
 split
 ·exact .stuck _
 ·rename_i hs
  unfold brC at hs ⊢
  split
  ·rename_i hb
   rw [if_pos hb] at hs
   split
   ·exact .bbranchSeq id ops d _ c _ x y r p q pr (by assumption) (by assumption) hx hy hr
   ·rename_i h1
    split at hs
    ·rename_i a b h2 h3; exact absurd rfl (fun e : (0 : Nat) = 0 => h1 _ _ h2 h3)
    ·simp [isStuck, stuckC] at hs
  ·rename_i hb
   rw [if_neg hb] at hs
   split
   ·exact .branchSeq id ops d _ c _ x y r p q pr (by assumption) (by assumption) hx hy hr
   ·rename_i h1
    split at hs
    ·rename_i a b h2 h3; exact absurd rfl (fun e : (0 : Nat) = 0 => h1 _ _ h2 h3)
    ·simp [isStuck, stuckC] at hs
def compC (E : Env) (nt : Nat) (vs : List Tmp) : Code → PC
 | .skip => .skip
 | .region _ ops d => regC E nt vs ops d
 | .seq (.region _ ops d) (.cond c x y) => brC E nt vs ops d c (compC E nt vs x) (compC E nt vs y)
 | .seq (.region _ ops d) (.seq (.cond c x y) r) => if isStuck (brC E nt vs ops d c (compC E nt vs x) (compC E nt vs y)) then stuckC else .seq (brC E nt vs ops d c (compC E nt vs x) (compC E nt vs y)) (compC E nt vs r)
 | .seq (.region _ ops false) y => match compDefer E nt vs ops with
   | some r => .guarded r.1 r.2 (compC E nt vs y)
   | none => .seq (regC E nt vs ops false) (compC E nt vs y)
 | .seq x y => .seq (compC E nt vs x) (compC E nt vs y)
 | .cond c x y => match cx E vs [] c with
   | some px => .branch [] px (compC E nt vs x) (compC E nt vs y)
   | none => stuckC
 | .block id x => .block id (compC E nt vs x)
 | .loop x => .loop (compC E nt vs x)
 | .rangeFunc g ps _ _ => match cx E vs [] g, E.lps.find? (fun y => y.1 == ps) with
   | some px, some y => match cxs E vs [] (y.2.2.map .tmp) with
     | some caps => .rangeF px y.2.1 caps
     | none => stuckC
   | _, _ => stuckC
 | .exit id => .exit id
 | .ret => .ret
 | _ => stuckC
theorem compC_cmp {E : Env} {nt : Nat} {vs : List Tmp} : ∀ {c : Code}, Cmp E nt vs c (compC E nt vs c) := by
 intro c
 fun_induction compC E nt vs c with
 | case1 => exact .skip
 | case2 id ops d => exact regC_cmp id ops d
 | case3 id ops d c x y ihx ihy => exact brC_cmp id ops d c ihx ihy
 | case4 => exact .stuck _
 | case5 id ops d c x y r h ihx ihy ihr =>
   have := brC_seq id ops d c ihx ihy ihr
   rw [if_neg h] at this
   exact this
 | case6 id ops y _ _ r h ihy => exact .guarded id ops _ _ y _ h ihy
 | case7 id ops y _ _ h ihy => exact .seq _ y _ _ (regC_cmp id ops false) ihy
 | case8 x y _ _ _ ihx ihy => exact .seq x y _ _ ihx ihy
 | case9 c x y px h ihx ihy => exact .cond c px x y _ _ h ihx ihy
 | case10 => exact .stuck _
 | case11 id x ih => exact .block id x _ ih
 | case12 x ih => exact .loop x _ ih
 | case13 g ps a b px y e1 e2 caps e3 =>
   have h2 : E.lps.find? (fun y => y.1 == ps) = some y := by assumption
   have hm := List.mem_of_find?_eq_some h2
   have he := List.find?_some h2
   obtain ⟨y1, y2, y3⟩ := y
   have he' : y1 = ps := by simpa using he
   subst he'
   exact .rangeF g y1 a b px y2 y3 caps (by assumption) hm (by assumption)
 | case14 => exact .stuck _
 | case15 => exact .stuck _
 | case16 id => exact .exit id
 | case17 => exact .ret
 | case18 => exact .stuck _
end PI
set_option linter.unusedSimpArgs false
set_option linter.unusedVariables false
namespace PI
open Go Go.RowKit
structure BI (N : Nm) (w : World) (G : GS) (st : St) (a : Act) (vs : List Tmp) (nt : Nat) : Prop where
 fi : FI N w G st a vs (fun _ => none)
 size : nt ≤ a.tmps.size
theorem drew_ext (w : World) (G : GS) : Ext w G w.drew G :=
 ⟨rfl, rfl, rfl, Nat.le_refl _, fun _ _ _ => rfl, fun _ _ h => ⟨h, rfl⟩, fun _ _ h => .inl h, fun _ h => .inr h, fun _ _ h => h, ShapeLe.refl w, rfl⟩
theorem drew_keep (w : World) (G : GS) : Keep (fun _ => False) w G w.drew G := ⟨fun _ _ h _ => ⟨h, rfl, fun _ h => h⟩, fun _ _ h => h⟩
section
variable {E : Env} {N : Nm} {vs : List Tmp} {P : Program} {nt : Nat} {Q : Exit → Act → World → Prop}
theorem FI.begin {w : World} {G : GS} {st : St} {a : Act} (h : BI N w G st a vs nt) (lm : Nat → Option Tmp) (hl : ∀ j t, lm j = some t → t < nt) (n : Nat) : FI N w G (begun n st) a vs lm := by
 refine ⟨h.fi.len, h.fi.var, ?_, h.fi.tv, fun j t hj => Nat.lt_of_lt_of_le (hl j t hj) h.size, h.fi.defers, h.fi.gen, h.fi.owlt, h.fi.fixlt, h.fi.heap, h.fi.hdom⟩
 intro j t u _ hu
 simp only [begun, List.getElem?_replicate] at hu
 split at hu
 ·simp at hu; subst hu; trivial
 ·simp at hu
theorem FI.finish {w : World} {G : GS} {st : St} {a : Act} {lm : Nat → Option Tmp} (h : FI N w G st a vs lm) (hs : nt ≤ a.tmps.size) : BI N w G (closed st) a vs nt :=
 ⟨⟨h.len, h.var, (by intro j t u hj; simp at hj), h.tv, (by intro j t hj; simp at hj), h.defers, h.gen, h.owlt, h.fixlt, h.heap, h.hdom⟩, hs⟩
theorem lmap_lt {ops : List Oper} (h : dstsOk nt ops = true) : ∀ j t, lmap vs ops j = some t → t < nt := by
 intro j t hj
 unfold lmap at hj
 split at hj
 ·rename_i o ho
  split at hj
  ·rename_i t' ht'
   split at hj
   ·simp at hj
   ·simp at hj; subst hj
    have := List.all_eq_true.1 h o (List.mem_of_getElem? ho)
    simpa [ht'] using this
  ·simp at hj
 ·simp at hj
theorem noDefer_spec {ops : Array Oper} (h : noDefer ops.toList = true) : ∀ (i : Nat) (o : Oper) c, ops[i]? = some o → o.op ≠ .defer c := by
 intro i o c ho e
 have := List.all_eq_true.1 h o (List.mem_of_getElem? (by simpa using ho))
 rw [e] at this
 simp at this
theorem remOf_all (n : Nat) : remOf n (Array.replicate n false) = List.range' 0 n := by
 rw [← List.range_eq_range']
 unfold remOf
 rw [List.filter_eq_self]
 intro i hi
 have : i < n := by simpa using hi
 simp [Array.getD_eq_getD_getElem?, this]
theorem closed_none (ops : Array Oper) : Closed ops (Array.replicate ops.size false) := by
 intro k o ho hkl
 have : k < ops.size := (Array.getElem?_eq_some_iff.1 ho).1
 simp [Array.getD_eq_getD_getElem?, this] at hkl
variable {L : Nat → Option PFunc} {r : Option Nat}
theorem region_sound (hF : FnsOK N P L) (hE : EnvOk E N) (hP : E.P = P) (hmix : P.follows .mixedOrders = true) (hnd : vs.Nodup) {cf : CallF} (hcf : CallOK N P cf) (hcL : ∀ k args h r, cf k args h = some r → ∃ f, L k = some f)
  {id : Nat} {ops : Array Oper} {d : Bool} {pos : List PO} (hc : compR E nt vs ops d = some pos) {w : World} {G : GS} {st st' : St} {a : Act} (hs : execOps cf pos st = some st') (hb : BI N w G st a vs nt) (hQ : ¬ LetsOut Q)
  (hk : ∀ a' w' G', FI N w' G' st' a' vs (lmap vs ops.toList) → Ext w G w' G' → nt ≤ a'.tmps.size → Q .normal a' w') : (Code.region id ops d).wpIn (W r) 0 P Q a w := by
 unfold compR at hc
 split at hc
 ·rename_i hcond
  simp only [Bool.and_eq_true] at hcond
  simp only [Option.bind_eq_some_iff] at hc
  obtain ⟨pos', hpos, hc⟩ := hc
  split at hc
  ·simp at hc
  ·rename_i hord
   simp at hc; subst hc
   have nm := names_ok hnd hcond.1.1
   have hlen : ops.size = pos'.length := by have := (cOpers_get hpos).1; simpa using this
   have hfi := FI.begin hb (lmap vs ops.toList) (lmap_lt hcond.1.2) pos'.length
   have hx : execL cf pos' (List.range' 0 pos'.length) (begun pos'.length st) = some st' := by
    rw [← execFrom_L (all := pos') (by simp)]; exact hs
   have hk' : Next1 N w G a st' vs ops.toList (Q .normal) := fun a' w' G' h1 h2 h3 => hk a' w' G' h1 h2 (by rw [h3]; exact hb.size)
   have hnd := noDefer_spec hcond.2
   cases d with
   | false =>
     refine wpIn_region (wpOpsIn_of hnd hQ ?_)
     have : List.range ops.size = List.range' 0 pos'.length := by rw [hlen, List.range_eq_range']
     rw [this]
     exact opsL_sound hF hE hP nm hcf hcL hpos hx hfi hk'
   | true =>
     have hord' : orderOk ops pos' = true := by simpa using hord
     refine wpIn_region_draw fun t => wpOpsIn_of hnd hQ ?_
     have hfd : FI N w.drew G (begun pos'.length st) a vs (lmap vs ops.toList) := hfi.ext (drew_ext w G) (drew_keep w G) hfi.gen hfi.owlt hfi.fixlt
     simp only [Region.schedule, hmix, Bool.true_or, if_true]
     refine wpAny_sound ops.size t _ a _ ?_
     refine any_sound hF hE hP nm hcf hcL hpos hord' ops.size (by simp) (by rw [remOf_all]; simp) (closed_none ops) (by rw [remOf_all, hlen]; exact hx) hfd (hk'.trans (drew_ext w G) rfl)
 ·simp at hc
theorem opsB_sound (hF : FnsOK N P L) (hE : EnvOk E N) (hP : E.P = P) {ops : Array Oper} (nm : Names vs (lmap vs ops.toList)) {cf : CallF} (hcf : CallOK N P cf) {ob : OutF} (hob : OutOK N P ob) (hro : RoundOK N P ob)
  (hcL : ∀ k args h x, cf k args h = some x → ∃ f, L k = some f) (hoL : ∀ k args h x, ob k args h = some x → ∃ f, L k = some f) (hd : ∀ (i : Nat) (o : Oper) c, ops[i]? = some o → o.op ≠ .defer c) {pos : List PO} (hpos : ∀ (i : Nat) (o : Oper), ops.toList[i]? = some o → ∃ p, pos[i]? = some p ∧ cOperB E vs ops.toList o = some p) (hlen : ops.size = pos.length)
  {res : Option PV} {st' : St} (hQ : ¬ LetsOut Q) :
  ∀ {l : List Nat} {st : St} {w : World} {G : GS} {a : Act}, brunL cf ob pos l st = some (res, st') → FI N w G st a vs (lmap vs ops.toList) → (res = none → Next1 N w G a st' vs ops.toList (Q .normal)) →
    (∀ p, res = some p → ∀ a' w' G' v, a'.tmps.size = a.tmps.size → VR N w' G'.fix G'.heap v p → Ext w G w' G' → FI N w' G' st' a' vs (lmap vs ops.toList) → Q (.panic [{ v, recovered := false }]) a' w') → wpOpsIn (W r) 0 P ops Q l a w
 | [], st, w, G, a, h, hf, hk, hb => by
   simp only [brunL, Option.some.injEq, Prod.mk.injEq] at h
   obtain ⟨rfl, rfl⟩ := h
   exact hk rfl _ _ G hf (Ext.refl _ _) rfl
 | i :: l, st, w, G, a, h, hf, hk, hb => by
   simp only [brunL] at h
   split at h
   ·rename_i p hp
    have hi : i < ops.size := by rw [hlen]; exact (List.getElem?_eq_some_iff.1 hp).1
    obtain ⟨p', hp', hcp⟩ := hpos i ops[i] (by simp [hi])
    have : p' = p := by rw [hp] at hp'; simpa using hp'.symm
    subst this
    rw [wpOpsIn_cons]
    have hoi : ops[i]? = some ops[i] := by simp [hi]
    split at h
    ·rename_i st1 hs
     refine bstep_sound (res := none) hF hE hP nm hoi hf hcf hob hro hcL hoL (fun c => hd i _ c hoi) hcp hs hQ ?_ (fun p e => by simp at e)
     intro _ a' w' G' hf' he hsz
     exact opsB_sound hF hE hP nm hcf hob hro hcL hoL hd hpos hlen hQ h hf' (fun hn => (hk hn).trans he hsz)
      (fun p hp a2 w2 G2 v h1 h2 h3 h4 => hb p hp a2 w2 G2 v (h1.trans hsz) h2 (he.trans h3) h4)
    ·rename_i hne
     have hs : bstep cf ob i p' st = some (res, st') := h
     cases res with
     | none => exact absurd hs (hne st')
     | some v =>
       refine bstep_sound (res := some v) hF hE hP nm hoi hf hcf hob hro hcL hoL (fun c => hd i _ c hoi) hcp hs hQ (fun e => by simp at e) ?_
       rintro p e w' G' u h1 h2 h3
       cases e
       exact hb v rfl a w' G' u rfl h1 h2 h3
   ·simp at h
theorem cOpersB_get : ∀ {os : List Oper} {pos : List PO} {ops : List Oper}, cOpersB E vs ops os = some pos → os.length = pos.length ∧ ∀ (i : Nat) (o : Oper), os[i]? = some o → ∃ p, pos[i]? = some p ∧ cOperB E vs ops o = some p
 | [], pos, ops, h => by simp [cOpersB] at h; subst h; simp
 | o :: os, pos, ops, h => by
   simp only [cOpersB, Option.bind_eq_some_iff, Option.map_eq_some_iff] at h
   obtain ⟨p, hp, ps, hps, rfl⟩ := h
   obtain ⟨h1, h2⟩ := cOpersB_get hps
   refine ⟨by simp [h1], ?_⟩
   intro i x hx
   cases i with
   | zero => simp at hx; subst hx; exact ⟨p, rfl, hp⟩
   | succ i => exact h2 i x (by simpa using hx)
theorem regionB_sound (hF : FnsOK N P L) (hE : EnvOk E N) (hP : E.P = P) (hmix : P.follows .mixedOrders = true) (hnd : vs.Nodup) {cf : CallF} (hcf : CallOK N P cf) {ob : OutF} (hob : OutOK N P ob) (hro : RoundOK N P ob)
  (hcL : ∀ k args h r, cf k args h = some r → ∃ f, L k = some f) (hoL : ∀ k args h x, ob k args h = some x → ∃ f, L k = some f)
  {id : Nat} {ops : Array Oper} {d : Bool} {pos : List PO} (hc : compB E nt vs ops d = some pos) {w : World} {G : GS} {st st' : St} {a : Act} {res : Option PV} (hs : brun cf ob 0 pos (begun pos.length st) = some (res, st')) (hb : BI N w G st a vs nt) (hQ : ¬ LetsOut Q)
  (hk : res = none → ∀ a' w' G', FI N w' G' st' a' vs (lmap vs ops.toList) → Ext w G w' G' → nt ≤ a'.tmps.size → Q .normal a' w')
  (hbm : ∀ p, res = some p → ∀ a' w' G' v, VR N w' G'.fix G'.heap v p → Ext w G w' G' → BI N w' G' (closed st') a' vs nt → Q (.panic [{ v, recovered := false }]) a' w') : (Code.region id ops d).wpIn (W r) 0 P Q a w := by
 unfold compB at hc
 split at hc
 ·rename_i hcond
  simp only [Bool.and_eq_true] at hcond
  simp only [Option.bind_eq_some_iff] at hc
  obtain ⟨pos', hpos, hc⟩ := hc
  split at hc
  ·simp at hc
  ·rename_i hord
   simp at hc; subst hc
   have nm := names_ok hnd hcond.1.1
   have hlen : ops.size = pos'.length := by have := (cOpersB_get hpos).1; simpa using this
   have hfi := FI.begin hb (lmap vs ops.toList) (lmap_lt hcond.1.2) pos'.length
   have hx : brunL cf ob pos' (List.range' 0 pos'.length) (begun pos'.length st) = some (res, st') := by
    rw [← brun_L (all := pos') (by simp)]; exact hs
   have hk' : res = none → Next1 N w G a st' vs ops.toList (Q .normal) := fun hn a' w' G' h1 h2 h3 => hk hn a' w' G' h1 h2 (by rw [h3]; exact hb.size)
   have hbm' : ∀ p, res = some p → ∀ a' w' G' v, a'.tmps.size = a.tmps.size → VR N w' G'.fix G'.heap v p → Ext w G w' G' → FI N w' G' st' a' vs (lmap vs ops.toList) → Q (.panic [{ v, recovered := false }]) a' w' :=
    fun p hp a' w' G' v h1 h2 h3 h4 => hbm p hp a' w' G' v h2 h3 (FI.finish h4 (by rw [h1]; exact hb.size))
   have hnd := noDefer_spec hcond.2
   cases d with
   | false =>
     refine wpIn_region ?_
     have : List.range ops.size = List.range' 0 pos'.length := by rw [hlen, List.range_eq_range']
     rw [this]
     exact opsB_sound hF hE hP nm hcf hob hro hcL hoL hnd (cOpersB_get hpos).2 hlen hQ hx hfi hk' hbm'
   | true =>
     have hord' : orderOk ops pos' = true := by simpa using hord
     refine wpIn_region_draw fun t => ?_
     have hfd : FI N w.drew G (begun pos'.length st) a vs (lmap vs ops.toList) := hfi.ext (drew_ext w G) (drew_keep w G) hfi.gen hfi.owlt hfi.fixlt
     simp only [Region.schedule, hmix, Bool.true_or, if_true]
     have hx2 := lin_run hlen hord' ops.size t (listed := Array.replicate ops.size false) (by simp) (by rw [remOf_all]; simp) (closed_none ops) (by rw [remOf_all, hlen]; exact hx)
     exact opsB_sound hF hE hP nm hcf hob hro hcL hoL hnd (cOpersB_get hpos).2 hlen hQ hx2 hfd (fun hn => (hk' hn).trans (drew_ext w G) rfl)
      (fun p hp a' w' G' v h1 h2 h3 h4 => hbm' p hp a' w' G' v h1 h2 ((drew_ext w G).trans h3) h4)
 ·simp at hc
theorem BI.putOther {w : World} {G : GS} {st : St} {a : Act} (h : BI N w G st a vs nt) {d : Tmp} (hd : (idxIn d vs 0).isNone = true) (v : Value) : BI N w G st (a.put (some d) v) vs nt := by
 refine ⟨⟨h.fi.len, ?_, (by intro j t u hj; simp at hj), fun i t ht => by simpa [Act.put] using h.fi.tv i t ht, (by intro j t hj; simp at hj), h.fi.defers, h.fi.gen, h.fi.owlt, h.fi.fixlt, h.fi.heap, h.fi.hdom⟩, by simpa [Act.put] using h.size⟩
 intro i t u h1 h2
 have hne : t ≠ d := by
  rintro rfl
  have := idxIn_of h1 0
  simp at hd
  rw [hd] at this
  simp at this
 have : (a.put (some d) v).eval (.tmp t) = a.eval (.tmp t) := by
  simp only [Act.eval, Act.put, Array.getD_eq_getD_getElem?, Array.getElem?_setIfInBounds]
  rw [if_neg (Ne.symm hne)]
 rw [this]
 exact h.fi.var i t u h1 h2
theorem opsP_sound (hF : FnsOK N P L) (hE : EnvOk E N) (hP : E.P = P) {ops : Array Oper} (nm : Names vs (lmap vs ops.toList)) {cf : CallF} (hcf : CallOK N P cf)
  (hcL : ∀ k args h x, cf k args h = some x → ∃ f, L k = some f) (hd : ∀ (i : Nat) (o : Oper) c, ops[i]? = some o → o.op ≠ .defer c) {pos : List PO} (hpos : ∀ (i : Nat) (p : PO), pos[i]? = some p → ∃ o, ops[i]? = some o ∧ cOper E vs ops.toList o = some p)
  {st' : St} (hQ : ¬ LetsOut Q) {rest : List Nat} :
  ∀ {l : List Nat} {st : St} {w : World} {G : GS} {a : Act}, execL cf pos l st = some st' → FI N w G st a vs (lmap vs ops.toList) → Next1 N w G a st' vs ops.toList (wpOpsIn (W r) 0 P ops Q rest) → wpOpsIn (W r) 0 P ops Q (l ++ rest) a w
 | [], st, w, G, a, h, hf, hk => by
   simp only [execL, Option.some.injEq] at h
   subst h
   exact hk _ _ G hf (Ext.refl _ _) rfl
 | i :: l, st, w, G, a, h, hf, hk => by
   simp only [execL] at h
   split at h
   ·rename_i p hp
    simp only [Option.bind_eq_some_iff] at h
    obtain ⟨st1, h1, h2⟩ := h
    obtain ⟨o, ho, hcp⟩ := hpos i p hp
    rw [List.cons_append, wpOpsIn_cons]
    refine wpOpIn_of (fun o' c ho' => hd i o' c ho') hQ (step1_sound hF hE hP nm ho hf hcf hcL hcp h1 ?_)
    intro a' w' G' hf' he hsz
    exact opsP_sound hF hE hP nm hcf hcL hd hpos hQ h2 hf' (hk.trans he hsz)
   ·simp at h
theorem raise_sound (hF : FnsOK N P L) (hE : EnvOk E N) (hP : E.P = P) (hnd : vs.Nodup) {cf : CallF} (hcf : CallOK N P cf) (hcL : ∀ k args h r, cf k args h = some r → ∃ f, L k = some f)
  {id : Nat} {ops : Array Oper} {pos : List PO} {t : Nat} {px : PX} (hc : compRaise E nt vs ops = some (pos, t, px)) {w : World} {G : GS} {st st1 : St} {a : Act} {u : PV} (hs : execOps cf pos st = some st1) (hu : rd st1 px = some u) (hb : BI N w G st a vs nt) (hQ : ¬ LetsOut Q)
  (hbm : ∀ a' w' G' v, VR N w' G'.fix G'.heap v (.iface t u) → Ext w G w' G' → BI N w' G' (closed st1) a' vs nt → Q (.panic [{ v, recovered := false }]) a' w') : (Code.region id ops false).wpIn (W r) 0 P Q a w := by
 unfold compRaise at hc
 split at hc
 ·rename_i hcond
  simp only [Bool.and_eq_true] at hcond
  split at hc
  ·rename_i d T x ty1 p1 af1 dst2 d' ty2 p2 af2 hdrop
   split at hc
   ·simp at hc
   ·simp at hc
   ·rename_i tu hnif htu
    split at hc
    ·rename_i hdd
     obtain ⟨rfl, hdv, h2⟩ := hdd
     simp only [Option.bind_eq_some_iff, Option.map_eq_some_iff, Prod.mk.injEq] at hc
     obtain ⟨pos', hpos, px', hpx, i, hi, rfl, rfl, rfl⟩ := hc
     obtain ⟨m, hm⟩ : ∃ m, ops.size = m + 2 := ⟨ops.size - 2, by omega⟩
     rw [hm] at hdrop hpos
     simp only [Nat.add_sub_cancel] at hdrop hpos
     have nm := names_ok hnd hcond.1.1
     have hpl : pos'.length = m := by
      have := (cOpers_get hpos).1
      rw [List.length_take] at this
      simp at this
      omega
     have hdf := noDefer_spec hcond.2
     have hpg : ∀ (i : Nat) (p : PO), pos'[i]? = some p → ∃ o, ops[i]? = some o ∧ cOper E vs ops.toList o = some p := by
      intro i p hp
      have hlt := (List.getElem?_eq_some_iff.1 hp).1
      have hlt2 : i < ops.size := by omega
      obtain ⟨p', hp', hcp⟩ := (cOpers_get hpos).2 i ops[i] (by rw [List.getElem?_take_of_lt (by omega)]; simp [hlt2])
      rw [hp] at hp'
      cases hp'
      exact ⟨ops[i], by simp [hlt2], hcp⟩
     have hfi := FI.begin hb (lmap vs ops.toList) (lmap_lt hcond.1.2) pos'.length
     have hx : execL cf pos' (List.range' 0 pos'.length) (begun pos'.length st) = some st1 := by
      rw [← execFrom_L (all := pos') (by simp)]; exact hs
     have hgm : ops.toList[m]? = some ⟨some d, .makeInterface T x, ty1, p1, af1, none⟩ := by
      have := congrArg (·[0]?) hdrop
      simpa [List.getElem?_drop] using this
     have hgm1 : ops.toList[m + 1]? = some ⟨dst2, .panic (.tmp d), ty2, p2, af2, none⟩ := by
      have := congrArg (·[1]?) hdrop
      simpa [List.getElem?_drop] using this
     have hdn : d < nt := by
      have := List.all_eq_true.1 hcond.1.2 _ (List.mem_of_getElem? hgm)
      simpa using this
     have hrange : List.range ops.size = List.range' 0 pos'.length ++ [m, m + 1] := by
      rw [hm, hpl, List.range_eq_range', List.range'_eq_append_iff]
      exact ⟨m, by omega, rfl, by rw [show m + 2 - m = 2 by omega]; simp [List.range'_succ]⟩
     refine wpIn_region ?_
     rw [hrange]
     refine opsP_sound hF hE hP nm hcf hcL hdf hpg hQ hx hfi ?_
     intro a' w' G' hf' he hsz
     have hval := (rd_sound hE hpx hf' hu).1
     have hty := hE.pt T i hi
     have hP' : P.underlying T = some tu := by rw [← hP]; exact htu
     rw [wpOpsIn_cons]
     unfold wpOpIn
     have hg0 : ops[m]? = some ⟨some d, .makeInterface T x, ty1, p1, af1, none⟩ := by simpa using hgm
     have hg1 : ops[m + 1]? = some ⟨dst2, .panic (.tmp d), ty2, p2, af2, none⟩ := by simpa using hgm1
     simp only [hg0, Region.wanted, if_true]
     refine ⟨fun _ _ => W_fn _, ?_⟩
     rw [Oper.semAt_eq _ _ _ (by simp)]
     have hrun : (execOp a'.eval (⟨some d, .makeInterface T x, ty1, p1, af1, none⟩ : Oper)).run P w' = .ok (.value (.iface T (a'.eval x))) w' := by
      have hru := run_underlying hP' w'
      simp only [execOp, Instr.makeInterface, Sem.run_bind, hru, Result.andThen_ok]
      cases tu <;> first | (exfalso; exact hnif _ rfl) | simp
     rw [hrun, Oper.uponIn_value]
     rw [wpOpsIn_cons]
     unfold wpOpIn
     simp only [hg1, Region.wanted, if_true]
     refine ⟨fun _ _ => W_fn _, ?_⟩
     rw [Oper.semAt_eq _ _ _ (by simp)]
     have hev : (a'.put (some d) (.iface T (a'.eval x))).eval (.tmp d) = .iface T (a'.eval x) := by
      have : d < a'.tmps.size := by rw [hsz]; exact Nat.lt_of_lt_of_le hdn hb.size
      simp [Act.eval, Act.put, Array.getD_eq_getD_getElem?, Array.getElem?_setIfInBounds, this]
     have hrun2 : (execOp (a'.put (some d) (.iface T (a'.eval x))).eval (⟨dst2, .panic (.tmp d), ty2, p2, af2, none⟩ : Oper)).run P w' = .halt (.panic (.iface T (a'.eval x))) w' := by
      simp only [execOp, Instr.panic, hev]
      rfl
     rw [hrun2, Oper.uponIn_panic]
     refine hbm _ w' G' _ ?_ he ((FI.finish hf' (by rw [hsz]; exact hb.size)).putOther hdv _)
     rw [← hty]
     exact .iface _ _ _ hval
    ·simp at hc
  ·simp at hc
 ·simp at hc
end
end PI
set_option linter.unusedSimpArgs false
set_option linter.unusedVariables false
namespace PI
open Go Go.RowKit
def PExit.plain : PExit → Bool
 | .after _ _ _ => false
 | _ => true
def Clo (N : Nm) (w' : World) (G' : GS) (kd : Nat) (caps : List PV) : Prop :=
 ∃ (d : Deferred) (ds : List Deferred) (vals : Array Value), G'.df = d :: ds ∧ d = { target := .fn (.func (N.fn kd)) vals, args := #[] } ∧ vals.size = caps.length ∧
   ∀ (i : Nat) (v : Value) (p : PV), vals[i]? = some v → caps[i]? = some p → VR N w' G'.fix G'.heap v p
def ExitR (N : Nm) (w' : World) (G' : GS) : PExit → Exit → Prop
 | .normal, e => e = .normal
 | .exit id, e => e = .exit id
 | .ret, e => e = .ret
 | .boom p, e => ∃ v, e = .panic [{ v, recovered := false }] ∧ VR N w' G'.fix G'.heap v p
 | .after kd caps none, e => (e = .normal ∨ e = .ret) ∧ Clo N w' G' kd caps
 | .after kd caps (some p), e => (∃ v, e = .panic [{ v, recovered := false }] ∧ VR N w' G'.fix G'.heap v p) ∧ Clo N w' G' kd caps
def DfR (p : PC) (x : PExit) (w : World) (G : GS) (w' : World) (G' : GS) : Prop :=
 match x with
 | .after _ _ _ => p.NR = true → ∃ d, G'.df = d :: G.df
 | _ => ∃ ms, G'.df = ms ++ G.df ∧ Marks w w' G' ms ∧ (p.NR = true → ms = [])
def loopsIn : Code → List (Array Tmp × Code × Code)
 | .seq a b | .cond _ a b => loopsIn a ++ loopsIn b
 | .block _ c | .loop c => loopsIn c
 | .rangeFunc _ ps a b => [(ps, a, b)]
 | _ => []
def LpOK (E : Env) (N : Nm) (nt : Nat) (fid : FuncId) (c : Code) : Prop :=
 ∀ ps kb vars, (ps, kb, vars) ∈ E.lps → ∀ x ∈ loopsIn c, x.1 = ps → N.yl kb = some ⟨fid, ps, x.2.1, x.2.2, vars, nt⟩
theorem LpOK.sub {E : Env} {N : Nm} {nt : Nat} {fid : FuncId} {c c' : Code} (h : LpOK E N nt fid c) (hs : ∀ x ∈ loopsIn c', x ∈ loopsIn c) : LpOK E N nt fid c' := fun ps kb vars hl x hx => h ps kb vars hl x (hs x hx)
theorem Ext.size_le {w w' : World} {G G' : GS} (h : ExtD w G w' G') : w.heap.size ≤ w'.heap.size := Ext.size h
theorem DfR.plain {p : PC} {x : PExit} {w w' : World} {G G' : GS} (h : G'.df = G.df) (hx : ∀ kd caps v, x ≠ .after kd caps v) : DfR p x w G w' G' := by
 unfold DfR
 cases x with
 | after kd caps v => exact absurd rfl (hx kd caps v)
 | _ => exact ⟨[], by simpa using h, Marks.nil _ _ _, fun _ => rfl⟩
theorem DfR.trans {p q s : PC} {x : PExit} {w w1 w2 : World} {G G1 G2 : GS} (e1 : ExtD w G w1 G1) (h1 : DfR p .normal w G w1 G1) (e2 : ExtD w1 G1 w2 G2) (h2 : DfR q x w1 G1 w2 G2) (hs : s.NR = true → p.NR = true ∧ q.NR = true) : DfR s x w G w2 G2 := by
 obtain ⟨ms, a1, a2, a3⟩ := h1
 have marks : ∀ ms2, G2.df = ms2 ++ G1.df → Marks w1 w2 G2 ms2 → (q.NR = true → ms2 = []) → ∃ ms, G2.df = ms ++ G.df ∧ Marks w w2 G2 ms ∧ (s.NR = true → ms = []) := by
  intro ms2 b1 b2 b3
  exact ⟨ms2 ++ ms, by rw [b1, a1]; simp, Marks.join (Ext.size_le e1) a2 e2 b2, fun h => by rw [b3 (hs h).2, a3 (hs h).1]; rfl⟩
 unfold DfR at h2 ⊢
 cases x with
 | after kd caps v =>
   intro h
   obtain ⟨d, hd⟩ := h2 (hs h).2
   exact ⟨d, by rw [hd, a1, a3 (hs h).1]; rfl⟩
 | normal => obtain ⟨ms2, b1, b2, b3⟩ := h2; exact marks ms2 b1 b2 b3
 | ret => obtain ⟨ms2, b1, b2, b3⟩ := h2; exact marks ms2 b1 b2 b3
 | exit id => obtain ⟨ms2, b1, b2, b3⟩ := h2; exact marks ms2 b1 b2 b3
 | boom v => obtain ⟨ms2, b1, b2, b3⟩ := h2; exact marks ms2 b1 b2 b3
theorem DfR.weak {p s : PC} {x : PExit} {w w1 w2 : World} {G G1 G2 : GS} (e1 : ExtD w G w1 G1) (h1 : G1.df = G.df) (e2 : ExtD w1 G1 w2 G2) (h2 : DfR p x w1 G1 w2 G2) (hs : s.NR = true → p.NR = true) : DfR s x w G w2 G2 :=
 DfR.trans (p := .skip) e1 (DfR.plain h1 (by simp)) e2 h2 (fun h => ⟨rfl, hs h⟩)
theorem letsOut_then {K : Act → World → Prop} {Q : Exit → Act → World → Prop} (h : ¬ LetsOut Q) : ¬ LetsOut (Exit.then K Q) := fun ⟨a, w, hq⟩ => h ⟨a, w, hq⟩
theorem letsOut_block {id : Nat} {Q : Exit → Act → World → Prop} (h : ¬ LetsOut Q) : ¬ LetsOut (Exit.inBlock id Q) := fun ⟨a, w, hq⟩ => h ⟨a, w, hq⟩
theorem noAfter {L : Nat → Option PFunc} : ∀ {n : Nat} {p : PC} {st st' : St} {kd : Nat} {cs : List PV} {v : Option PV}, p.RO = true → exec L n p st = some (.after kd cs v, st') → False
 | 0, p, st, st', kd, cs, v, _, h => by simp [exec] at h
 | n + 1, p, st, st', kd, cs, v, hr, h => by
   rw [exec.eq_def] at h
   cases p with
   | rangeF x kb caps => simp [PC.RO] at hr
   | guarded k2 caps c => simp [PC.RO] at hr
   | round a b => simp at h
   | skip => simp at h
   | exit id => simp at h
   | ret => simp at h
   | region ops => simp at h
   | raise ops t x =>
     simp only at h
     split at h
     ·rename_i st1 _
      cases hx : rd st1 x with
      | none => rw [hx] at h; simp at h
      | some p => rw [hx] at h; simp at h
     ·simp at h
   | bregion ops => simp only at h; split at h <;> simp at h
   | branch ops x a b =>
     simp only [PC.RO, Bool.and_eq_true] at hr
     simp only at h
     split at h
     ·split at h
      ·rename_i t _
       cases t
       ·exact noAfter hr.2 h
       ·exact noAfter hr.1 h
      ·simp at h
     ·simp at h
   | bbranch ops x a b =>
     simp only [PC.RO, Bool.and_eq_true] at hr
     simp only at h
     split at h
     ·split at h
      ·rename_i t _
       cases t
       ·exact noAfter hr.2 h
       ·exact noAfter hr.1 h
      ·simp at h
     ·simp at h
     ·simp at h
   | seq a b =>
     simp only [PC.RO, Bool.and_eq_true] at hr
     simp only at h
     split at h
     ·exact noAfter hr.2 h
     ·simp at h
     ·exact noAfter hr.1 h
   | block id c =>
     simp only [PC.RO] at hr
     simp only at h
     split at h
     ·split at h <;> simp at h
     ·simp at h
     ·exact noAfter hr h
   | loop c =>
     have hr' := hr
     simp only [PC.RO] at hr
     simp only at h
     split at h
     ·exact noAfter hr' h
     ·simp at h
     ·exact noAfter hr h
section
variable {E : Env} {N : Nm} {vs : List Tmp} {P : Program} {nt : Nat} {L : Nat → Option PFunc}
def KQ (N : Nm) (vs : List Tmp) (nt : Nat) (p : PC) (x : PExit) (st' : St) (w : World) (G : GS) (Q : Exit → Act → World → Prop) : Prop :=
 ∀ a' w' G' e, ExitR N w' G' x e → BI N w' G' st' a' vs nt → ExtD w G w' G' → DfR p x w G w' G' → Q e a' w'
theorem then_pass {K : Act → World → Prop} {Q : Exit → Act → World → Prop} {p : PC} {x : PExit} {st' : St} {w : World} {G : GS} (hx : x ≠ .normal) (ha : ∀ kd caps v, x ≠ .after kd caps v) (h : KQ N vs nt p x st' w G Q) : KQ N vs nt p x st' w G (Exit.then K Q) := by
 intro a' w' G' e he hb hext hd
 have := h a' w' G' e he hb hext hd
 cases x with
 | normal => exact absurd rfl hx
 | after kd caps v => exact absurd rfl (ha kd caps v)
 | exit id => simp only [ExitR] at he; subst he; exact this
 | ret => simp only [ExitR] at he; subst he; exact this
 | boom v => obtain ⟨u, rfl, _⟩ := he; exact this
structure Runs (N : Nm) (P : Program) (L : Nat → Option PFunc) (n : Nat) : Prop where
 call : CallOK N P (callWith (exec L n) L)
 out : OutOK N P (outWith (exec L n) L)
 round : RoundOK N P (outWith (exec L n) L)
 yl : ∀ k, noRound L k = true → N.yl k = none
theorem callWith_some {n : Nat} {k : Nat} {args : List PV} {h : List PObj} {x} (hc : callWith (exec L n) L k args h = some x) : ∃ f, L k = some f := by
 unfold callWith at hc
 split at hc
 ·simp at hc
 ·rename_i f hf; exact ⟨f, hf⟩
theorem outWith_some {n : Nat} {k : Nat} {args : List PV} {h : List PObj} {x} (hc : outWith (exec L n) L k args h = some x) : ∃ f, L k = some f := by
 unfold outWith at hc
 split at hc
 ·simp at hc
 ·rename_i f hf; exact ⟨f, hf⟩
theorem code_sound (hF : FnsOK N P L) (hE : EnvOk E N) (hP : E.P = P) (hmix : P.follows .mixedOrders = true) (hnd : vs.Nodup) {fid : FuncId} {rd' : Option Nat} :
  ∀ (n : Nat), (∀ m, m < n → Runs N P L m) → ∀ {c : Code} {p : PC} {x : PExit} {st st' : St} {w : World} {G : GS} {a : Act} {Q : Exit → Act → World → Prop}, Cmp E nt vs c p → exec L n p st = some (x, st') → BI N w G st a vs nt → LpOK E N nt fid c →
    (rd' = none ∨ p.RO = true) → ¬ LetsOut Q → KQ N vs nt p x st' w G Q → wpN rd' fid P c Q a w
 | 0, _, c, p, x, st, st', w, G, a, Q, _, h, _, _, _, _, _ => by simp [exec] at h
 | n + 1, hcall, c, p, x, st, st', w, G, a, Q, hc, h, hb, hY, hR, hQ, hk => by
   have hrun := hcall n (by omega)
   have branch : ∀ {m : Nat}, m ≤ n → ∀ {id : Nat} {ops : Array Oper} {d : Bool} {pos : List PO} {cc : Operand} {px : PX} {x1 y1 : Code} {p1 p2 : PC} {Q : Exit → Act → World → Prop} {x : PExit} {st' : St}, compR E nt vs ops d = some pos → cx E vs ops.toList cc = some px → Cmp E nt vs x1 p1 → Cmp E nt vs y1 p2 →
     LpOK E N nt fid x1 → LpOK E N nt fid y1 → (rd' = none ∨ (p1.RO = true ∧ p2.RO = true)) → ¬ LetsOut Q →
     exec L (m + 1) (.branch pos px p1 p2) st = some (x, st') → KQ N vs nt (.branch pos px p1 p2) x st' w G Q → wpN rd' fid P (.region id ops d) (Exit.then (wpN rd' fid P (.cond cc x1 y1) Q) Q) a w := by
    intro m hm id ops d pos cc px x1 y1 p1 p2 Q x st' hRg hcc hx hy hYx hYy hR hQ h hk
    have ih := @code_sound hF hE hP hmix hnd fid rd' m (fun m' hm' => hcall m' (by omega))
    have hrun := hcall m (by omega)
    simp only [exec] at h
    split at h
    ·rename_i st1 hs1
     split at h
     ·rename_i t ht
      refine wpN_of (region_sound hF hE hP hmix hnd hrun.call (fun _ _ _ _ => callWith_some) hRg hs1 hb (letsOut_then hQ) ?_)
      intro a' w' G' hf he hsz
      have hev := (rd_sound hE hcc hf ht).1
      have hev' : a'.eval cc = .bool t := by generalize a'.eval cc = z at hev; cases hev; rfl
      have hb' := FI.finish (nt := nt) hf hsz
      refine wpN_cond hev' ?_
      have knext : ∀ (pq : PC), (pq = p1 ∨ pq = p2) → KQ N vs nt pq x st' w' G' Q := by
       intro pq hpq a2 w2 G2 e2 h1 h2 h3 h4
       refine hk a2 w2 G2 e2 h1 h2 (ExtD.trans (.of he) h3) (DfR.weak (.of he) he.df h3 h4 ?_)
       intro hn
       simp only [PC.NR, Bool.and_eq_true] at hn
       rcases hpq with rfl | rfl
       ·exact hn.1
       ·exact hn.2
      cases t with
      | true => exact ih hx (by simpa using h) hb' hYx (hR.imp (fun h => h) (·.1)) hQ (knext _ (.inl rfl))
      | false => exact ih hy (by simpa using h) hb' hYy (hR.imp (fun h => h) (·.2)) hQ (knext _ (.inr rfl))
     ·simp at h
    ·simp at h
   have bbranch : ∀ {m : Nat}, m ≤ n → ∀ {id : Nat} {ops : Array Oper} {d : Bool} {pos : List PO} {cc : Operand} {px : PX} {x1 y1 : Code} {p1 p2 : PC} {Q : Exit → Act → World → Prop} {x : PExit} {st' : St}, compB E nt vs ops d = some pos → cx E vs ops.toList cc = some px → Cmp E nt vs x1 p1 → Cmp E nt vs y1 p2 →
     LpOK E N nt fid x1 → LpOK E N nt fid y1 → (rd' = none ∨ (p1.RO = true ∧ p2.RO = true)) → ¬ LetsOut Q →
     exec L (m + 1) (.bbranch pos px p1 p2) st = some (x, st') → KQ N vs nt (.bbranch pos px p1 p2) x st' w G Q → wpN rd' fid P (.region id ops d) (Exit.then (wpN rd' fid P (.cond cc x1 y1) Q) Q) a w := by
    intro m hm id ops d pos cc px x1 y1 p1 p2 Q x st' hRg hcc hx hy hYx hYy hR hQ h hk
    have ih := @code_sound hF hE hP hmix hnd fid rd' m (fun m' hm' => hcall m' (by omega))
    have hrun := hcall m (by omega)
    simp only [exec] at h
    split at h
    ·rename_i st1 hs1
     split at h
     ·rename_i t ht
      refine wpN_of (regionB_sound (res := none) hF hE hP hmix hnd hrun.call hrun.out hrun.round (fun _ _ _ _ => callWith_some) (fun _ _ _ _ => outWith_some) hRg hs1 hb (letsOut_then hQ) ?_ (fun p e => by simp at e))
      intro _ a' w' G' hf he hsz
      have hev := (rd_sound hE hcc hf ht).1
      have hev' : a'.eval cc = .bool t := by generalize a'.eval cc = z at hev; cases hev; rfl
      have hb' := FI.finish (nt := nt) hf hsz
      refine wpN_cond hev' ?_
      have knext : ∀ (pq : PC), (pq = p1 ∨ pq = p2) → KQ N vs nt pq x st' w' G' Q := by
       intro pq hpq a2 w2 G2 e2 h1 h2 h3 h4
       refine hk a2 w2 G2 e2 h1 h2 (ExtD.trans (.of he) h3) (DfR.weak (.of he) he.df h3 h4 ?_)
       intro hn
       simp only [PC.NR, Bool.and_eq_true] at hn
       rcases hpq with rfl | rfl
       ·exact hn.1
       ·exact hn.2
      cases t with
      | true => exact ih hx (by simpa using h) hb' hYx (hR.imp (fun h => h) (·.1)) hQ (knext _ (.inl rfl))
      | false => exact ih hy (by simpa using h) hb' hYy (hR.imp (fun h => h) (·.2)) hQ (knext _ (.inr rfl))
     ·simp at h
    ·rename_i v st1 hs1
     simp only [Option.some.injEq, Prod.mk.injEq] at h
     obtain ⟨rfl, rfl⟩ := h
     refine wpN_of (regionB_sound (res := some v) hF hE hP hmix hnd hrun.call hrun.out hrun.round (fun _ _ _ _ => callWith_some) (fun _ _ _ _ => outWith_some) hRg hs1 hb (letsOut_then hQ) (fun e => by simp at e) ?_)
     rintro p e a' w' G' u hu he hb'
     cases e
     exact hk a' w' G' _ ⟨u, rfl, hu⟩ hb' (.of he) (DfR.plain he.df (by simp))
    ·simp at h
   have nrB : ∀ {pos : List PO} {px : PX} {p1 p2 : PC}, (rd' = none ∨ (PC.branch pos px p1 p2).RO = true) → (rd' = none ∨ (p1.RO = true ∧ p2.RO = true)) := by
    intro pos px p1 p2 h
    exact h.imp id (fun h => by simpa [PC.RO] using h)
   have nrBB : ∀ {pos : List PO} {px : PX} {p1 p2 : PC}, (rd' = none ∨ (PC.bbranch pos px p1 p2).RO = true) → (rd' = none ∨ (p1.RO = true ∧ p2.RO = true)) := by
    intro pos px p1 p2 h
    exact h.imp id (fun h => by simpa [PC.RO] using h)
   have ih := @code_sound hF hE hP hmix hnd fid rd' n (fun m hm => hcall m (by omega))
   have up : ∀ {id : Nat} {ops : Array Oper} {d : Bool} {cc : Operand} {x1 y1 r : Code} {a : Act} {w : World}, wpN rd' fid P (.region id ops d) (Exit.then (wpN rd' fid P (.cond cc x1 y1) (Exit.then (wpN rd' fid P r Q) Q)) (Exit.then (wpN rd' fid P r Q) Q)) a w → wpN rd' fid P (.region id ops d) (Exit.then (wpN rd' fid P (.seq (.cond cc x1 y1) r) Q) Q) a w := by
    intro id ops d cc x1 y1 r a w hw
    refine wpN_mono hw ?_
    intro e a' w' hq
    cases e <;> simp only [Exit.then] at hq ⊢
    ·exact wpN_seq hq
    all_goals exact hq
   cases hc with
   | stuck => simp [stuckC, exec, execOps, execFrom, rd, raw, cp] at h
   | skip =>
     simp only [exec, Option.some.injEq, Prod.mk.injEq] at h
     obtain ⟨rfl, rfl⟩ := h
     exact wpN_skip (hk _ _ G .normal rfl hb (ExtD.refl _ _) (DfR.plain rfl (by simp)))
   | exit id =>
     simp only [exec, Option.some.injEq, Prod.mk.injEq] at h
     obtain ⟨rfl, rfl⟩ := h
     exact wpN_exit (hk _ _ G (.exit id) rfl hb (ExtD.refl _ _) (DfR.plain rfl (by simp)))
   | ret =>
     simp only [exec, Option.some.injEq, Prod.mk.injEq] at h
     obtain ⟨rfl, rfl⟩ := h
     exact wpN_ret (hk _ _ G .ret rfl hb (ExtD.refl _ _) (DfR.plain rfl (by simp)))
   | region id ops d pos hRg =>
     simp only [exec, Option.map_eq_some_iff, Prod.mk.injEq] at h
     obtain ⟨st1, hs1, rfl, rfl⟩ := h
     exact wpN_of (region_sound hF hE hP hmix hnd hrun.call (fun _ _ _ _ => callWith_some) hRg hs1 hb hQ (fun a' w' G' hf he hsz => hk a' w' G' .normal rfl (FI.finish hf hsz) (.of he) (DfR.plain he.df (by simp))))
   | bregion id ops d pos hRg =>
     simp only [exec] at h
     split at h
     ·rename_i st1 hs1
      simp only [Option.some.injEq, Prod.mk.injEq] at h
      obtain ⟨rfl, rfl⟩ := h
      refine wpN_of (regionB_sound (res := none) hF hE hP hmix hnd hrun.call hrun.out hrun.round (fun _ _ _ _ => callWith_some) (fun _ _ _ _ => outWith_some) hRg hs1 hb hQ ?_ (fun p e => by simp at e))
      intro _ a' w' G' hf he hsz
      exact hk a' w' G' .normal rfl (FI.finish hf hsz) (.of he) (DfR.plain he.df (by simp))
     ·rename_i v st1 hs1
      simp only [Option.some.injEq, Prod.mk.injEq] at h
      obtain ⟨rfl, rfl⟩ := h
      refine wpN_of (regionB_sound (res := some v) hF hE hP hmix hnd hrun.call hrun.out hrun.round (fun _ _ _ _ => callWith_some) (fun _ _ _ _ => outWith_some) hRg hs1 hb hQ (fun e => by simp at e) ?_)
      rintro p e a' w' G' u hu he hb'
      cases e
      exact hk a' w' G' _ ⟨u, rfl, hu⟩ hb' (.of he) (DfR.plain he.df (by simp))
     ·simp at h
   | raise id ops pos t px hRg =>
     simp only [exec] at h
     split at h
     ·rename_i st1 hs1
      simp only [Option.map_eq_some_iff, Prod.mk.injEq] at h
      obtain ⟨u, hu, rfl, rfl⟩ := h
      refine wpN_of (raise_sound hF hE hP hnd hrun.call (fun _ _ _ _ => callWith_some) hRg hs1 hu hb hQ ?_)
      intro a' w' G' v hv he hb'
      exact hk a' w' G' _ ⟨v, rfl, hv⟩ hb' (.of he) (DfR.plain he.df (by simp))
     ·simp at h
   | branch id ops d pos cc px x1 y1 p1 p2 hRg hcc hx hy =>
     exact wpN_seq (branch (Nat.le_refl _) hRg hcc hx hy (hY.sub (fun z hz => by simp [loopsIn, hz])) (hY.sub (fun z hz => by simp [loopsIn, hz])) (nrB hR) hQ h hk)
   | bbranch id ops d pos cc px x1 y1 p1 p2 hRg hcc hx hy =>
     exact wpN_seq (bbranch (Nat.le_refl _) hRg hcc hx hy (hY.sub (fun z hz => by simp [loopsIn, hz])) (hY.sub (fun z hz => by simp [loopsIn, hz])) (nrBB hR) hQ h hk)
   | branchSeq id ops d pos cc px x1 y1 r p1 p2 pr hRg hcc hx hy hr =>
     simp only [exec] at h
     refine wpN_seq ?_
     have hR1 : rd' = none ∨ (PC.branch pos px p1 p2).RO = true := hR.imp (fun h => h) (fun h => by simp only [PC.RO, Bool.and_eq_true] at h ⊢; exact h.1)
     have hR2 : rd' = none ∨ pr.RO = true := hR.imp (fun h => h) (fun h => by simp only [PC.RO, Bool.and_eq_true] at h; exact h.2)
     split at h
     ·rename_i st1 hs1
      cases n with
      | zero => simp [exec] at hs1
      | succ m =>
        refine up (branch (Nat.le_succ m) hRg hcc hx hy (hY.sub (fun z hz => by simp [loopsIn, hz])) (hY.sub (fun z hz => by simp [loopsIn, hz])) (nrB hR1) (letsOut_then hQ) hs1 ?_)
        intro a' w' G' e he hb' hext hd
        simp only [ExitR] at he
        subst he
        refine ih hr h hb' (hY.sub (fun z hz => by simp [loopsIn, hz])) hR2 hQ ?_
        intro a2 w2 G2 e2 h1 h2 h3 h4
        exact hk a2 w2 G2 e2 h1 h2 (hext.trans h3) (DfR.trans hext hd h3 h4 (fun hn => by simpa only [PC.NR, Bool.and_eq_true] using hn))
     ·simp at h
     ·rename_i hne hna
      cases n with
      | zero => simp [exec] at h
      | succ m =>
        refine up (branch (Nat.le_succ m) hRg hcc hx hy (hY.sub (fun z hz => by simp [loopsIn, hz])) (hY.sub (fun z hz => by simp [loopsIn, hz])) (nrB hR1) (letsOut_then hQ) h ?_)
        refine then_pass (fun e => hne st' (by rw [h, e])) (fun kd caps v e => hna kd caps v st' (by rw [h, e])) ?_
        intro a2 w2 G2 e2 h1 h2 h3 h4
        exact hk a2 w2 G2 e2 h1 h2 h3 (DfR.weak (ExtD.refl _ _) rfl h3 h4 (fun hn => by simp only [PC.NR, Bool.and_eq_true] at hn ⊢; exact hn.1))
   | bbranchSeq id ops d pos cc px x1 y1 r p1 p2 pr hRg hcc hx hy hr =>
     simp only [exec] at h
     refine wpN_seq ?_
     have hR1 : rd' = none ∨ (PC.bbranch pos px p1 p2).RO = true := hR.imp (fun h => h) (fun h => by simp only [PC.RO, Bool.and_eq_true] at h ⊢; exact h.1)
     have hR2 : rd' = none ∨ pr.RO = true := hR.imp (fun h => h) (fun h => by simp only [PC.RO, Bool.and_eq_true] at h; exact h.2)
     split at h
     ·rename_i st1 hs1
      cases n with
      | zero => simp [exec] at hs1
      | succ m =>
        refine up (bbranch (Nat.le_succ m) hRg hcc hx hy (hY.sub (fun z hz => by simp [loopsIn, hz])) (hY.sub (fun z hz => by simp [loopsIn, hz])) (nrBB hR1) (letsOut_then hQ) hs1 ?_)
        intro a' w' G' e he hb' hext hd
        simp only [ExitR] at he
        subst he
        refine ih hr h hb' (hY.sub (fun z hz => by simp [loopsIn, hz])) hR2 hQ ?_
        intro a2 w2 G2 e2 h1 h2 h3 h4
        exact hk a2 w2 G2 e2 h1 h2 (hext.trans h3) (DfR.trans hext hd h3 h4 (fun hn => by simpa only [PC.NR, Bool.and_eq_true] using hn))
     ·simp at h
     ·rename_i hne hna
      cases n with
      | zero => simp [exec] at h
      | succ m =>
        refine up (bbranch (Nat.le_succ m) hRg hcc hx hy (hY.sub (fun z hz => by simp [loopsIn, hz])) (hY.sub (fun z hz => by simp [loopsIn, hz])) (nrBB hR1) (letsOut_then hQ) h ?_)
        refine then_pass (fun e => hne st' (by rw [h, e])) (fun kd caps v e => hna kd caps v st' (by rw [h, e])) ?_
        intro a2 w2 G2 e2 h1 h2 h3 h4
        exact hk a2 w2 G2 e2 h1 h2 h3 (DfR.weak (ExtD.refl _ _) rfl h3 h4 (fun hn => by simp only [PC.NR, Bool.and_eq_true] at hn ⊢; exact hn.1))
   | seq x1 y1 p1 q1 hx hy =>
     simp only [exec] at h
     refine wpN_seq ?_
     have hR1 : rd' = none ∨ p1.RO = true := hR.imp (fun h => h) (fun h => by simp only [PC.RO, Bool.and_eq_true] at h; exact h.1)
     have hR2 : rd' = none ∨ q1.RO = true := hR.imp (fun h => h) (fun h => by simp only [PC.RO, Bool.and_eq_true] at h; exact h.2)
     split at h
     ·rename_i st1 hs1
      refine ih hx hs1 hb (hY.sub (fun z hz => by simp [loopsIn, hz])) hR1 (letsOut_then hQ) ?_
      intro a' w' G' e he hb' hext hd
      simp only [ExitR] at he
      subst he
      refine ih hy h hb' (hY.sub (fun z hz => by simp [loopsIn, hz])) hR2 hQ ?_
      intro a2 w2 G2 e2 h1 h2 h3 h4
      exact hk a2 w2 G2 e2 h1 h2 (hext.trans h3) (DfR.trans hext hd h3 h4 (fun hn => by simpa only [PC.NR, Bool.and_eq_true] using hn))
     ·simp at h
     ·rename_i hne hna
      refine ih hx h hb (hY.sub (fun z hz => by simp [loopsIn, hz])) hR1 (letsOut_then hQ) ?_
      refine then_pass (fun e => hne st' (by rw [h, e])) (fun kd caps v e => hna kd caps v st' (by rw [h, e])) ?_
      intro a2 w2 G2 e2 h1 h2 h3 h4
      exact hk a2 w2 G2 e2 h1 h2 h3 (DfR.weak (ExtD.refl _ _) rfl h3 h4 (fun hn => by simp only [PC.NR, Bool.and_eq_true] at hn ⊢; exact hn.1))
   | cond cc px x1 y1 p1 q1 hcc hx hy =>
     simp only [exec, execOps, execFrom] at h
     split at h
     ·rename_i t ht
      have hf := FI.begin (lm := lmap vs []) hb (by intro j t hj; simp [lmap] at hj) 0
      have hev := (rd_sound hE hcc hf ht).1
      have hev' : a.eval cc = .bool t := by generalize a.eval cc = z at hev; cases hev; rfl
      have hb' := FI.finish (nt := nt) hf hb.size
      refine wpN_cond hev' ?_
      have knext : ∀ (pq : PC), (pq = p1 ∨ pq = q1) → KQ N vs nt pq x st' w G Q := by
       intro pq hpq a2 w2 G2 e2 h1 h2 h3 h4
       refine hk a2 w2 G2 e2 h1 h2 h3 (DfR.weak (ExtD.refl _ _) rfl h3 h4 ?_)
       intro hn
       simp only [PC.NR, Bool.and_eq_true] at hn
       rcases hpq with rfl | rfl
       ·exact hn.1
       ·exact hn.2
      cases t with
      | true => exact ih hx (by simpa using h) hb' (hY.sub (c' := x1) (fun z hz => by simp [loopsIn, hz])) ((nrB hR).imp (fun h => h) (·.1)) hQ (knext _ (.inl rfl))
      | false => exact ih hy (by simpa using h) hb' (hY.sub (c' := y1) (fun z hz => by simp [loopsIn, hz])) ((nrB hR).imp (fun h => h) (·.2)) hQ (knext _ (.inr rfl))
     ·simp at h
   | block id x1 p1 hx =>
     simp only [exec] at h
     refine wpN_block ?_
     have hR1 : rd' = none ∨ p1.RO = true := hR
     have hY1 : LpOK E N nt fid x1 := hY
     split at h
     ·rename_i i st1 hs1
      split at h
      ·rename_i hi
       subst hi
       simp only [Option.some.injEq, Prod.mk.injEq] at h
       obtain ⟨rfl, rfl⟩ := h
       refine ih hx hs1 hb hY1 hR1 (letsOut_block hQ) ?_
       intro a' w' G' e he hb' hext hd
       simp only [ExitR] at he
       subst he
       simp only [Exit.inBlock, if_true]
       exact hk a' w' G' .normal rfl hb' hext hd
      ·rename_i hi
       simp only [Option.some.injEq, Prod.mk.injEq] at h
       obtain ⟨rfl, rfl⟩ := h
       refine ih hx hs1 hb hY1 hR1 (letsOut_block hQ) ?_
       intro a' w' G' e he hb' hext hd
       simp only [ExitR] at he
       subst he
       simp only [Exit.inBlock, if_neg hi]
       exact hk a' w' G' _ rfl hb' hext hd
     ·simp at h
     ·rename_i hne hna
      refine ih hx h hb hY1 hR1 (letsOut_block hQ) ?_
      intro a' w' G' e he hb' hext hd
      have := hk a' w' G' e he hb' hext hd
      cases x with
      | normal => simp only [ExitR] at he; subst he; exact this
      | exit i => exact absurd h (fun e => hne _ _ e)
      | ret => simp only [ExitR] at he; subst he; exact this
      | boom v => obtain ⟨u, rfl, _⟩ := he; exact this
      | after kd caps v => exact absurd h (fun e => hna _ _ _ _ e)
   | loop x1 p1 hx =>
     refine wpN_loop_rounds (n + 1) ?_
     have hR1 : rd' = none ∨ p1.RO = true := hR
     have hY1 : LpOK E N nt fid x1 := hY
     have key : ∀ (m : Nat), m ≤ n + 1 → ∀ {st : St} {w : World} {G : GS} {a : Act}, exec L m (.loop p1) st = some (x, st') → BI N w G st a vs nt → KQ N vs nt (.loop p1) x st' w G Q → roundsN rd' fid P x1 Q m a w := by
      intro m
      induction m with
      | zero => intro _ st w G a h; simp [exec] at h
      | succ m ihm =>
        intro hm st w G a h hb hk
        rw [roundsN_succ]
        have ih' := @code_sound hF hE hP hmix hnd fid rd' m (fun m' hm' => hcall m' (by omega))
        simp only [exec] at h
        split at h
        ·rename_i st1 hs1
         refine ih' hx hs1 hb hY1 hR1 (letsOut_then hQ) ?_
         intro a' w' G' e he hb' hext hd
         simp only [ExitR] at he
         subst he
         refine ihm (by omega) h hb' ?_
         intro a2 w2 G2 e2 h1 h2 h3 h4
         exact hk a2 w2 G2 e2 h1 h2 (hext.trans h3) (DfR.trans hext hd h3 h4 (fun hn => ⟨hn, hn⟩))
        ·simp at h
        ·rename_i hne hna
         refine ih' hx h hb hY1 hR1 (letsOut_then hQ) ?_
         refine then_pass (fun e => hne st' (by rw [h, e])) (fun kd caps v e => hna kd caps v st' (by rw [h, e])) ?_
         intro a2 w2 G2 e2 h1 h2 h3 h4
         exact hk a2 w2 G2 e2 h1 h2 h3 h4
     exact key (n + 1) (Nat.le_refl _) h hb hk
   | rangeF g ps as body px kb vars caps hg hl hv =>
     simp only [exec] at h
     split at h
     ·rename_i k first captured cs hrd hrdcs
      split at h
      ·simp at h
      ·rename_i hnr
       have hro : rd' = none := by rcases hR with h | h; exact h; simp [PC.RO] at h
       subst hro
       have hlm : lmap vs [] = (fun _ => none) := by funext j; simp [lmap]
       have hf : FI N w G st a vs (lmap vs []) := by rw [hlm]; exact hb.fi
       have hgf := (rd_sound hE hg hf hrd).1
       obtain ⟨hc1, hc2⟩ := rdAll_sound hE hf hv hrdcs
       have hky : N.yl k = none := hrun.yl k (by simpa using hnr)
       generalize hgv : a.eval g = gv at hgf
       cases hgf with
       | yield _ m l y tmps caps' hy _ _ _ _ _ => rw [hky] at hy; simp at hy
       | func _ fs cs' _ _ hy e1 e2 hfs hcs =>
         have henter := run_enterLoop_outer (P := P) (w := w) fid a.tmps ps as body
         have x1 := new_other hb.fi (.deferred (some []))
         have hsz0 : (w.alloc (.deferred (some []))).heap.size = w.heap.size + 1 := by simp
         have x2 := new_obj x1.2 (ob := .loop true) (mob := .loop { state := .ready, pending := none, fn := fid, tmps := a.tmps, params := ps, assign := as, body := body, defers := w.heap.size }) (by
          rintro G' rfl _
          refine ⟨?_, _, alloc_heap_new, rfl, by simp⟩
          intro o hfx
          have := x1.2.fixlt _ _ hfx
          omega)
         rw [hsz0] at x2
         generalize hw1 : (w.alloc (.deferred (some []))).alloc (.loop { state := .ready, pending := none, fn := fid, tmps := a.tmps, params := ps, assign := as, body := body, defers := w.heap.size }) = w1 at henter x2
         have hl1 : w1.heap[w.heap.size + 1]? = some (.loop { state := .ready, pending := none, fn := fid, tmps := a.tmps, params := ps, assign := as, body := body, defers := w.heap.size }) := by
          rw [← hw1, ← hsz0]; exact alloc_heap_new
         have hd1 : w1.heap[w.heap.size]? = some (.deferred (some [])) := by
          rw [← hw1, alloc_heap_old (by rw [hsz0]; omega)]; exact alloc_heap_new
         have hs1 : w1.heap.size = w.heap.size + 2 := by rw [← hw1]; simp
         have hext1 : Ext w G w1 (G.more (w.heap.size + 1) st.heap.length) := x1.1.trans x2.1
         have f2 := x2.2
         generalize hG1 : G.more (w.heap.size + 1) st.heap.length = G1 at hext1 f2
         have hheap1 : G1.heap st.heap.length = some (w.heap.size + 1) := by rw [← hG1]; simp [GS.more]
         have how1 : G1.ow w.heap.size = none := by
          rw [← hG1]
          simp only [GS.more]
          rw [if_neg (by omega)]
          cases hx : G.ow w.heap.size with
          | none => rfl
          | some kk => have := hb.fi.owlt _ _ hx; omega
         have hyv : VR N w1 G1.fix G1.heap (.func (.yield (w.heap.size + 1)) #[] #[]) (.func kb (.ptr st.heap.length 0 :: cs) []) := by
          refine .yield kb st.heap.length (w.heap.size + 1) ⟨fid, ps, as, body, vars, nt⟩ a.tmps cs (hY ps kb vars hl (ps, as, body) (by simp [loopsIn]) rfl) hheap1 (by simp [loopOf, hl1]) (by simpa using hc1.symm) hb.size ?_
          intro i t p ht hp
          have := (hc2 i (.tmp t) p (by simpa using ht) hp).1
          exact VR.ext (by simpa [Act.eval] using this) hext1
         have hres : (resolve a.eval (rangeCall g (w.heap.size + 1)) 0).run P w1 = .ok { target := .fn (.func (N.fn k)) cs', args := fs ++ #[.func (.yield (w.heap.size + 1)) #[] #[]] } w1 := by
          have hcv : a.eval (.const (.func (.yield (w.heap.size + 1)) #[] #[])) = .func (.yield (w.heap.size + 1)) #[] #[] := rfl
          simp [resolve, rangeCall, hgv, Deferred.ofValue, hcv]
         obtain ⟨pf, hL⟩ : ∃ f, L k = some f := by
          split at h
          ·exact outWith_some (by assumption)
          ·exact outWith_some (by assumption)
          ·simp at h
         have hinv : (invoke (.fn (.func (N.fn k)) cs') (fs ++ #[.func (.yield (w.heap.size + 1)) #[] #[]])).run P w1 = .ok (.enter (N.fn k) (fs ++ #[.func (.yield (w.heap.size + 1)) #[] #[]] ++ cs')) w1 := by
          simp only [invoke]
          exact run_callFunc hF hL _ w1
         have hargs : ∀ (i : Nat) (v : Value) (p : PV), (fs ++ #[.func (.yield (w.heap.size + 1)) #[] #[]] ++ cs')[i]? = some v → (first ++ .func kb (.ptr st.heap.length 0 :: cs) [] :: captured)[i]? = some p → VR N w1 G1.fix G1.heap v p := by
          intro i v p hv' hp
          by_cases hi : i < fs.size
          ·rw [Array.append_assoc, Array.getElem?_append_left hi] at hv'
           rw [List.getElem?_append_left (by omega)] at hp
           exact (hfs i v p hv' hp).ext hext1
          ·rw [Array.append_assoc, Array.getElem?_append_right (by omega)] at hv'
           rw [List.getElem?_append_right (by omega), ← e1] at hp
           cases hn : i - fs.size with
           | zero =>
             rw [hn] at hv' hp
             rw [Array.getElem?_append_left (by simp)] at hv'
             simp at hv' hp
             subst hv' hp
             exact hyv
           | succ m =>
             rw [hn] at hv' hp
             rw [Array.getElem?_append_right (by simp)] at hv'
             simp at hv' hp
             exact (hcs m v p hv' hp).ext hext1
         have hsize : (fs ++ #[Value.func (.yield (w.heap.size + 1)) #[] #[]] ++ cs').size = (first ++ PV.func kb (.ptr st.heap.length 0 :: cs) [] :: captured).length := by simp [e1, e2]; omega
         have marks : ∀ {w' w4 : World} {G' : GS} {e5 : Ext w1 G1 w' G'} {G4 : GS}, w4.heap[w.heap.size]? = w'.heap[w.heap.size]? → G4.ow = G'.ow → Marks w w4 G4 [{ target := .collected w.heap.size, args := #[] }] := by
          intro w' w4 G' e5 G4 hw4 hG4
          refine ⟨[w.heap.size], rfl, by simp, ?_⟩
          intro b hb
          simp only [List.mem_singleton] at hb
          subst hb
          refine ⟨Nat.le_refl _, ?_, ?_⟩
          ·rw [hw4, e5.same _ (by omega) how1]; exact hd1
          ·rw [hG4]
           cases hx : G'.ow w.heap.size with
           | none => rfl
           | some kk =>
             rcases e5.own w.heap.size (by rw [hx]; simp) with h | h
             ·omega
             ·exact absurd how1 h
         have fin : ∀ {x' : PExit} {j : Option Code} {ob : PObj} {u : PV} {h' : List PObj}, outWith (exec L n) L k (first ++ .func kb (.ptr st.heap.length 0 :: cs) [] :: captured) (st.heap ++ [.loop true]) = some (.val u, h') →
           KQ N vs nt (.rangeF px kb caps) x' { st with heap := h'.set st.heap.length .gone } w G Q → ((j = none ∧ x' = .normal) ∨ (j = some .ret ∧ x' = .ret) ∨ ∃ id, j = some (.exit id) ∧ x' = .exit id) →
           h'[st.heap.length]? = some ob → ob ≠ .gone → (∀ (w' : World) (G' : GS) (b : Nat), ObjR N w' G' st.heap.length b ob → (∀ o, ¬ G'.fix b o) ∧ ∃ r : Go.Loop, w'.heap[b]? = some (.loop r) ∧ r.pending = j ∧ r.state ≠ .busy) →
           wpN none fid P (.rangeFunc g ps as body) Q a w := by
          intro x' j ob u h' hcall hk hj hrdy hng hob
          refine wpN_rangeFunc henter hres hinv ((hrun.out k _ _ _ _ hcall hky w1 G1.callee _ (between_callee f2) hsize hargs).mono ?_)
          rintro e w' ⟨G2, ⟨v, rfl, hvr⟩, he, hb2⟩
          obtain ⟨G', hext, hf1, g1, g2⟩ := back_heap f2 he hb2
          rcases hf1.heap.1 st.heap.length _ hrdy with hgo | ⟨b, k1, k2, k3⟩
          ·exact absurd hgo hng
          obtain ⟨kf, r, k3, k4, k5⟩ := hob _ _ _ k3
          have : b = w.heap.size + 1 := by have := hext.heap _ _ hheap1; rw [k1] at this; simpa using this
          subst this
          have hend := run_endLoop (P := P) k3 k5
          have hend := hend.trans (congrArg (fun z => Result.ok z _) k4)
          obtain ⟨e6, hf6⟩ := turn_obj (ob' := .gone) (mob := .loop { r with state := .exhausted }) hf1 k1 k2 kf (by simp [World.shape?, k3]) (by
           intro s hs
           have hlt : w.heap.size + 1 < w'.heap.size := (Array.getElem?_eq_some_iff.1 k3).1
           simp only [loopOf, k3] at hs
           simpa [loopOf, Array.getElem?_setIfInBounds, hlt] using hs) (.inl rfl)
          refine ⟨_, _, hend, ?_⟩
          have hall := (hext1.trans hext).trans e6
          have hf7 := FI.setDf hf6 ([{ target := .collected w.heap.size, args := #[] }] ++ a.defers)
          have last : ∀ e2, ExitR N _ _ x' e2 → Q e2 _ _ := fun e2 hx' => hk { a with defers := [{ target := .collected w.heap.size, args := #[] }] ++ a.defers } (w'.putObj (w.heap.size + 1) (.loop { r with state := .exhausted })) { G' with df := [{ target := .collected w.heap.size, args := #[] }] ++ a.defers } e2 hx' ⟨hf7, hb.size⟩ (Ext.setDf hall _) (by
           have hd : ∃ ms, ([{ target := .collected w.heap.size, args := #[] }] ++ a.defers : List Deferred) = ms ++ G.df ∧ Marks w (w'.putObj (w.heap.size + 1) (.loop { r with state := .exhausted })) { G' with df := [{ target := .collected w.heap.size, args := #[] }] ++ a.defers } ms ∧ ((PC.rangeF px kb caps).NR = true → ms = []) :=
            ⟨[{ target := .collected w.heap.size, args := #[] }], by simp [hb.fi.defers], marks (e5 := hext) (w4 := w'.putObj (w.heap.size + 1) (.loop { r with state := .exhausted })) (G4 := { G' with df := [{ target := .collected w.heap.size, args := #[] }] ++ a.defers }) (by simp [World.putObj, Array.getElem?_setIfInBounds]) rfl, by simp [PC.NR]⟩
           rcases hj with ⟨_, rfl⟩ | ⟨_, rfl⟩ | ⟨id, _, rfl⟩ <;> exact hd)
          rcases hj with ⟨rfl, rfl⟩ | ⟨rfl, rfl⟩ | ⟨id, rfl, rfl⟩
          ·exact last _ rfl
          ·exact wpN_ret (last _ rfl)
          ·exact wpN_exit (last _ rfl)
         split at h
         ·rename_i u h' hcall
          split at h
          ·rename_i hrdy
           simp only [Option.some.injEq, Prod.mk.injEq] at h
           obtain ⟨rfl, rfl⟩ := h
           exact fin hcall hk (.inl ⟨rfl, rfl⟩) hrdy (by simp) (fun w' G' b ⟨kf, r, k3, k4, k5⟩ => ⟨kf, r, k3, k4, by rw [k5]; simp⟩)
          ·rename_i id hrdy
           simp only [Option.some.injEq, Prod.mk.injEq] at h
           obtain ⟨rfl, rfl⟩ := h
           exact fin hcall hk (.inr (.inr ⟨id, rfl, rfl⟩)) hrdy (by simp) (fun w' G' b ⟨kf, r, k3, k4, k5⟩ => ⟨kf, r, k3, k4, by rw [k5]; simp⟩)
          ·rename_i hrdy
           simp only [Option.some.injEq, Prod.mk.injEq] at h
           obtain ⟨rfl, rfl⟩ := h
           exact fin hcall hk (.inr (.inl ⟨rfl, rfl⟩)) hrdy (by simp) (fun w' G' b ⟨kf, r, k3, k4, k5⟩ => ⟨kf, r, k3, k4, by rw [k5]; simp⟩)
          ·simp at h
         ·rename_i v h' hcall
          simp only [Option.some.injEq, Prod.mk.injEq] at h
          obtain ⟨rfl, rfl⟩ := h
          refine wpN_rangeFunc henter hres hinv ((hrun.out k _ _ _ _ hcall hky w1 G1.callee _ (between_callee f2) hsize hargs).mono ?_)
          rintro e w' ⟨G2, ⟨u, rfl, hvr⟩, he, hb2⟩
          obtain ⟨G', hext, hf1, g1, g2⟩ := back_heap f2 he hb2
          have hall := hext1.trans hext
          have hf7 := FI.setDf hf1 ([{ target := .collected w.heap.size, args := #[] }] ++ a.defers)
          refine hk _ _ _ _ ⟨u, rfl, by rw [← g1, ← g2] at hvr; exact hvr⟩ ⟨hf7, hb.size⟩ (Ext.setDf hall _) ⟨[{ target := .collected w.heap.size, args := #[] }], by simp [hb.fi.defers], marks (e5 := hext) rfl rfl, by simp [PC.NR]⟩
         ·simp at h
     ·simp at h
   | guarded id ops kd caps y q hd hy =>
     simp only [exec] at h
     split at h
     ·simp at h
     ·rename_i hnr
      have hqn : q.NR = true := by simpa using hnr
      have hro : rd' = none := by rcases hR with h | h; exact h; simp [PC.RO] at h
      subst hro
      split at h
      ·rename_i cs hrdcs
       unfold compDefer at hd
       split at hd
       ·rename_i d f first pcaps ty1 ps1 af1 d' args ts2 ty2 ps2 af2 hops
        split at hd
        ·rename_i hdd
         obtain ⟨rfl, hdv, hdn, hfi0, har0⟩ := hdd
         simp only [Option.bind_eq_some_iff, Option.map_eq_some_iff, Prod.mk.injEq] at hd
         obtain ⟨k0, hk0, pcs, hpcs, rfl, rfl⟩ := hd
         have hlm : lmap vs [] = (fun _ => none) := by funext j; simp [lmap]
         have hf : FI N w G st a vs (lmap vs []) := by rw [hlm]; exact hb.fi
         obtain ⟨hc1, hc2⟩ := rdAll_sound hE hf hpcs hrdcs
         obtain ⟨ops⟩ := ops
         simp only at hops
         subst hops
         have hfi0' : first = #[] := by cases first; simpa using hfi0
         have har0' : args = #[] := by cases args; simpa using har0
         subst hfi0' har0'
         have hfn := hE.fn _ _ hk0
         refine wpN_seq (wpN_of (n := 0) (wpIn_region ?_))
         have hsz2 : List.range (Array.mk [({ dst := some d, op := .makeFunc (.func f) #[] pcaps, type := ty1, pos := ps1, after := af1, guard := none } : Oper), { dst := none, op := .defer { callee := .value (.tmp d), args := #[], argTypes := ts2 }, type := ty2, pos := ps2, after := af2, guard := none }]).size = [0, 1] := rfl
         rw [hsz2, wpOpsIn_cons]
         unfold wpOpIn
         simp only [List.getElem?_toArray, List.getElem?_cons_zero, Region.wanted, if_true]
         refine ⟨fun _ _ => W_fn _, ?_⟩
         rw [show (W none).round = none from rfl, Oper.semAt_none]
         have hrun1 : (execOp a.eval ({ dst := some d, op := .makeFunc (.func f) #[] pcaps, type := ty1, pos := ps1, after := af1, guard := none } : Oper)).run P w = .ok (.value (.func (.func f) #[] (pcaps.map a.eval))) w := by
          simp [execOp, Instr.makeFunc]
         rw [hrun1, Oper.uponIn_value]
         rw [wpOpsIn_cons]
         unfold wpOpIn
         simp only [List.getElem?_toArray, List.getElem?_cons_succ, List.getElem?_cons_zero, Region.wanted, if_true]
         refine ⟨fun _ _ => W_fn _, ?_⟩
         rw [show (W none).round = none from rfl, Oper.semAt_none]
         have hev : (a.put (some d) (.func (.func f) #[] (pcaps.map a.eval))).eval (.tmp d) = .func (.func f) #[] (pcaps.map a.eval) := by
          have : d < a.tmps.size := Nat.lt_of_lt_of_le hdn hb.size
          simp [Act.eval, Act.put, Array.getD_eq_getD_getElem?, Array.getElem?_setIfInBounds, this]
         have hrun2 : (execOp (a.put (some d) (.func (.func f) #[] (pcaps.map a.eval))).eval ({ dst := none, op := .defer { callee := .value (.tmp d), args := #[], argTypes := ts2 }, type := ty2, pos := ps2, after := af2, guard := none } : Oper)).run P w =
           .ok (.defer { target := .fn (.func f) (pcaps.map a.eval), args := #[] }) w := by
          simp [execOp, resolve, hev, Deferred.ofValue]
         rw [hrun2, Oper.uponIn_defer]
         simp only [wpOpsIn]
         have b1 := hb.putOther hdv (.func (.func f) #[] (pcaps.map a.eval))
         generalize hdd : ({ target := .fn (.func f) (pcaps.map a.eval), args := #[] } : Deferred) = dd
         have b2 : BI N w { G with df := dd :: a.defers } st { a.put (some d) (.func (.func f) #[] (pcaps.map a.eval)) with defers := dd :: a.defers } vs nt := ⟨FI.setDf b1.fi _, b1.size⟩
         have hclo : ∀ (w' : World) (G' : GS), ExtD w { G with df := dd :: a.defers } w' G' → G'.df = dd :: a.defers → Clo N w' G' k0 cs := by
          intro w' G' hext hdf
          refine ⟨dd, a.defers, pcaps.map a.eval, hdf, by rw [← hdd, hfn], by simpa using hc1, ?_⟩
          intro i v p hv hp
          simp only [Array.getElem?_map, Option.map_eq_some_iff] at hv
          obtain ⟨x, hx, rfl⟩ := hv
          have hxx : Ext w { G with df := G'.df } w' G' := hext
          exact VR.mono (hc2 i x p (by simpa using hx) hp).1 hxx.fix hxx.heap hxx.shape
         have run : ∀ (x0 : PExit) (st1 : St), exec L n q st = some (x0, st1) → x0.plain = true → KQ N vs nt q x0 st1 w { G with df := dd :: a.defers } Q → wpN none fid P y Q { a.put (some d) (.func (.func f) #[] (pcaps.map a.eval)) with defers := dd :: a.defers } w := by
          intro x0 st1 hx0 _ hkq
          exact ih hy hx0 b2 (hY.sub (fun z hz => by simp [loopsIn, hz])) (.inl rfl) hQ hkq
         have dfs : ∀ {x0 : PExit} {w' : World} {G' : GS}, x0.plain = true → DfR q x0 w { G with df := dd :: a.defers } w' G' → G'.df = dd :: a.defers := by
          intro x0 w' G' hx0 hd
          have key : (∃ ms, G'.df = ms ++ (dd :: a.defers) ∧ Marks w w' G' ms ∧ (q.NR = true → ms = [])) → G'.df = dd :: a.defers := by
           rintro ⟨ms, h1, _, h3⟩
           rw [h1, h3 hqn]; rfl
          cases x0 with
          | after _ _ _ => simp [PExit.plain] at hx0
          | normal => exact key hd
          | exit _ => exact key hd
          | ret => exact key hd
          | boom _ => exact key hd
         have hdA : ∀ {w' : World} {G' : GS} {v : Option PV}, G'.df = dd :: a.defers → DfR (.guarded k0 pcs q) (.after k0 cs v) w G w' G' := fun h _ => ⟨dd, by rw [h, hb.fi.defers]⟩
         split at h
         ·rename_i st1 hx0
          simp only [Option.some.injEq, Prod.mk.injEq] at h
          obtain ⟨rfl, rfl⟩ := h
          refine run .normal _ hx0 rfl ?_
          intro a' w' G' e he hb' hext hdf
          have hdf' := dfs rfl hdf
          exact hk a' w' G' e ⟨.inl he, hclo w' G' hext hdf'⟩ hb' hext (hdA hdf')
         ·rename_i st1 hx0
          simp only [Option.some.injEq, Prod.mk.injEq] at h
          obtain ⟨rfl, rfl⟩ := h
          refine run .ret _ hx0 rfl ?_
          intro a' w' G' e he hb' hext hdf
          have hdf' := dfs rfl hdf
          exact hk a' w' G' e ⟨.inr he, hclo w' G' hext hdf'⟩ hb' hext (hdA hdf')
         ·rename_i v st1 hx0
          simp only [Option.some.injEq, Prod.mk.injEq] at h
          obtain ⟨rfl, rfl⟩ := h
          refine run (.boom v) _ hx0 rfl ?_
          intro a' w' G' e he hb' hext hdf
          have hdf' := dfs rfl hdf
          exact hk a' w' G' e ⟨he, hclo w' G' hext hdf'⟩ hb' hext (hdA hdf')
         ·simp at h
        ·simp at hd
       ·simp at hd
      ·simp at h
end
end PI
