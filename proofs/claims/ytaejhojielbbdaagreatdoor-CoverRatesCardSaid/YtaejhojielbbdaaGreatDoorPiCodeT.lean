/-
  The pure interpreter is right: code.
-/
import Derived.Test.YtaejhojielbbdaaGreatDoorPiLoopM
import Derived.RangeFuncRecord
set_option linter.unusedSimpArgs false
set_option linter.unusedVariables false
set_option linter.unusedSectionVars false
namespace PI
open Go Go.RowKit
def PExit.plain : PExit → Bool
 | .after _ _ _ => false
 | _ => true
/-- The closure that has been deferred. -/
def Clo (N : Nm) (w' : World) (G' : GS) (kd : Nat) (caps : List PV) : Prop :=
 ∃ (d : Deferred) (ds : List Deferred) (vals : Array Value), G'.df = d :: ds ∧ d = { target := .fn (.func (N.fn kd)) vals, args := #[] } ∧ vals.size = caps.length ∧
   ∀ (i : Nat) (v : Value) (p : PV), vals[i]? = some v → caps[i]? = some p → VR N w' G'.fix G'.heap v p
/-- How code ends, in the machine. -/
def ExitR (N : Nm) (w' : World) (G' : GS) : PExit → Exit → Prop
 | .normal, e => e = .normal
 | .exit id, e => e = .exit id
 | .ret, e => e = .ret
 | .boom p, e => ∃ v, e = .panic [{ v, recovered := false }] ∧ VR N w' G'.fix G'.heap v p
 | .after kd caps none, e => (e = .normal ∨ e = .ret) ∧ Clo N w' G' kd caps
 | .after kd caps (some p), e => (∃ v, e = .panic [{ v, recovered := false }] ∧ VR N w' G'.fix G'.heap v p) ∧ Clo N w' G' kd caps
/-- The deferred calls behind it. -/
def DfR (p : PC) (x : PExit) (w : World) (G : GS) (w' : World) (G' : GS) : Prop :=
 match x with
 | .after _ _ _ => p.NR = true → ∃ d, G'.df = d :: G.df
 | _ => ∃ ms, G'.df = ms ++ G.df ∧ Marks w w' G' ms ∧ (p.NR = true → ms = [])
/-- The loops over functions in code. -/
def loopsIn : Code → List (Array Tmp × Code × Code)
 | .seq a b | .cond _ a b => loopsIn a ++ loopsIn b
 | .block _ c | .loop c => loopsIn c
 | .rangeFunc _ ps a b => [(ps, a, b)]
 | _ => []
def LpOK (E : Env) (N : Nm) (nt : Nat) (fid : FuncId) (c : Code) : Prop :=
 ∀ ps kb vars, (ps, kb, vars) ∈ E.lps → ∀ x ∈ loopsIn c, x.1 = ps → N.yl kb = some ⟨fid, ps, x.2.1, x.2.2, vars, nt⟩
theorem LpOK.sub {E : Env} {N : Nm} {nt : Nat} {fid : FuncId} {c c' : Code} (h : LpOK E N nt fid c) (hs : ∀ x ∈ loopsIn c', x ∈ loopsIn c) : LpOK E N nt fid c' := fun ps kb vars hl x hx => h ps kb vars hl x (hs x hx)
theorem Ext.size_le {w w' : World} {G G' : GS} (h : ExtD w G w' G') : w.heap.size ≤ w'.heap.size := Ext.size h
theorem DfR.plain {p : PC} {x : PExit} {w w' : World} {G G' : GS} (h : G'.df = G.df) (hx : ∀ kd caps v, x ≠ .after kd caps v) : DfR p x w G w' G' := by
 unfold DfR
 cases x with
 | after kd caps v => exact absurd rfl (hx kd caps v)
 | _ => exact ⟨[], by simpa using h, Marks.nil _ _ _, fun _ => rfl⟩
/-- One piece behind another. -/
theorem DfR.trans {p q s : PC} {x : PExit} {w w1 w2 : World} {G G1 G2 : GS} (e1 : ExtD w G w1 G1) (h1 : DfR p .normal w G w1 G1) (e2 : ExtD w1 G1 w2 G2) (h2 : DfR q x w1 G1 w2 G2) (hs : s.NR = true → p.NR = true ∧ q.NR = true) : DfR s x w G w2 G2 := by
 obtain ⟨ms, a1, a2, a3⟩ := h1
 have marks : ∀ ms2, G2.df = ms2 ++ G1.df → Marks w1 w2 G2 ms2 → (q.NR = true → ms2 = []) → ∃ ms, G2.df = ms ++ G.df ∧ Marks w w2 G2 ms ∧ (s.NR = true → ms = []) := by
  intro ms2 b1 b2 b3
  exact ⟨ms2 ++ ms, by rw [b1, a1]; simp, Marks.join (Ext.size_le e1) a2 e2 b2, fun h => by rw [b3 (hs h).2, a3 (hs h).1]; rfl⟩
 unfold DfR at h2 ⊢
 cases x with
 | after kd caps v =>
   intro h
   obtain ⟨d, hd⟩ := h2 (hs h).2
   exact ⟨d, by rw [hd, a1, a3 (hs h).1]; rfl⟩
 | normal => obtain ⟨ms2, b1, b2, b3⟩ := h2; exact marks ms2 b1 b2 b3
 | ret => obtain ⟨ms2, b1, b2, b3⟩ := h2; exact marks ms2 b1 b2 b3
 | exit id => obtain ⟨ms2, b1, b2, b3⟩ := h2; exact marks ms2 b1 b2 b3
 | boom v => obtain ⟨ms2, b1, b2, b3⟩ := h2; exact marks ms2 b1 b2 b3
theorem DfR.weak {p s : PC} {x : PExit} {w w1 w2 : World} {G G1 G2 : GS} (e1 : ExtD w G w1 G1) (h1 : G1.df = G.df) (e2 : ExtD w1 G1 w2 G2) (h2 : DfR p x w1 G1 w2 G2) (hs : s.NR = true → p.NR = true) : DfR s x w G w2 G2 :=
 DfR.trans (p := .skip) e1 (DfR.plain h1 (by simp)) e2 h2 (fun h => ⟨rfl, hs h⟩)
/-- Code for rounds has no defer statement. -/
theorem noAfter {L : Nat → Option PFunc} : ∀ {n : Nat} {p : PC} {st st' : St} {kd : Nat} {cs : List PV} {v : Option PV}, p.RO = true → exec L n p st = some (.after kd cs v, st') → False
 | 0, p, st, st', kd, cs, v, _, h => by simp [exec] at h
 | n + 1, p, st, st', kd, cs, v, hr, h => by
   rw [exec.eq_def] at h
   cases p with
   | rangeF x kb caps => simp [PC.RO] at hr
   | guarded k2 caps c => simp [PC.RO] at hr
   | round a b => simp at h
   | skip => simp at h
   | exit id => simp at h
   | ret => simp at h
   | region ops => simp at h
   | mloop => simp at h
   | raise ops t x =>
     simp only at h
     split at h
     ·rename_i st1 _
      cases hx : rd st1 x with
      | none => rw [hx] at h; simp at h
      | some p => rw [hx] at h; simp at h
     ·simp at h
   | bregion ops => simp only at h; split at h <;> simp at h
   | branch ops x a b =>
     simp only [PC.RO, Bool.and_eq_true] at hr
     simp only at h
     split at h
     ·split at h
      ·rename_i t _
       cases t
       ·exact noAfter hr.2 h
       ·exact noAfter hr.1 h
      ·simp at h
     ·simp at h
   | bbranch ops x a b =>
     simp only [PC.RO, Bool.and_eq_true] at hr
     simp only at h
     split at h
     ·split at h
      ·rename_i t _
       cases t
       ·exact noAfter hr.2 h
       ·exact noAfter hr.1 h
      ·simp at h
     ·simp at h
     ·simp at h
   | seq a b =>
     simp only [PC.RO, Bool.and_eq_true] at hr
     simp only at h
     split at h
     ·exact noAfter hr.2 h
     ·simp at h
     ·exact noAfter hr.1 h
   | block id c =>
     simp only [PC.RO] at hr
     simp only at h
     split at h
     ·split at h <;> simp at h
     ·simp at h
     ·exact noAfter hr h
   | loop c =>
     have hr' := hr
     simp only [PC.RO] at hr
     simp only at h
     split at h
     ·exact noAfter hr' h
     ·simp at h
     ·exact noAfter hr h
section
variable {E : Env} {N : Nm} {vs : List Tmp} {P : Program} {nt : Nat} {L : Nat → Option PFunc}
/-- What code is followed by. -/
def KQ (N : Nm) (vs : List Tmp) (nt : Nat) (p : PC) (x : PExit) (st' : St) (w : World) (G : GS) (Q : Exit → Act → World → Prop) : Prop :=
 ∀ a' w' G' e, ExitR N w' G' x e → BI N w' G' st' a' vs nt → ExtD w G w' G' → DfR p x w G w' G' → Q e a' w'
/-- An exit that is none of the ordinary ones passes. -/
theorem then_pass {K : Act → World → Prop} {Q : Exit → Act → World → Prop} {p : PC} {x : PExit} {st' : St} {w : World} {G : GS} (hx : x ≠ .normal) (ha : ∀ kd caps v, x ≠ .after kd caps v) (h : KQ N vs nt p x st' w G Q) : KQ N vs nt p x st' w G (Exit.then K Q) := by
 intro a' w' G' e he hb hext hd
 have := h a' w' G' e he hb hext hd
 cases x with
 | normal => exact absurd rfl hx
 | after kd caps v => exact absurd rfl (ha kd caps v)
 | exit id => simp only [ExitR] at he; subst he; exact this
 | ret => simp only [ExitR] at he; subst he; exact this
 | boom v => obtain ⟨u, rfl, _⟩ := he; exact this
structure Runs (N : Nm) (P : Program) (L : Nat → Option PFunc) (n : Nat) : Prop where
 call : CallOK N P (callWith (exec L n) L)
 out : OutOK N P (outWith (exec L n) L)
 round : RoundOK N P (outWith (exec L n) L)
 yl : ∀ k, noRound L k = true → N.yl k = none
theorem callWith_some {n : Nat} {k : Nat} {args : List PV} {h : List PObj} {x} (hc : callWith (exec L n) L k args h = some x) : ∃ f, L k = some f := by
 unfold callWith at hc
 split at hc
 ·simp at hc
 ·rename_i f hf; exact ⟨f, hf⟩
theorem outWith_some {n : Nat} {k : Nat} {args : List PV} {h : List PObj} {x} (hc : outWith (exec L n) L k args h = some x) : ∃ f, L k = some f := by
 unfold outWith at hc
 split at hc
 ·simp at hc
 ·rename_i f hf; exact ⟨f, hf⟩
/-- Code. -/
theorem code_sound (hF : FnsOK N P L) (hE : EnvOk E N) (hP : E.P = P) (hmix : P.follows .mixedOrders = true) (hnd : vs.Nodup) {fid : FuncId} {rd' : Option Nat} :
  ∀ (n : Nat), (∀ m, m < n → Runs N P L m) → ∀ {c : Code} {p : PC} {x : PExit} {st st' : St} {w : World} {G : GS} {a : Act} {Q : Exit → Act → World → Prop}, Cmp E nt vs c p → exec L n p st = some (x, st') → BI N w G st a vs nt → LpOK E N nt fid c →
    (rd' = none ∨ p.RO = true) → ¬ LetsOut Q → KQ N vs nt p x st' w G Q → wpN rd' fid P c Q a w
 | 0, _, c, p, x, st, st', w, G, a, Q, _, h, _, _, _, _, _ => by simp [exec] at h
 | n + 1, hcall, c, p, x, st, st', w, G, a, Q, hc, h, hb, hY, hR, hQ, hk => by
   have hrun := hcall n (by omega)
   have branch : ∀ {m : Nat}, m ≤ n → ∀ {id : Nat} {ops : Array Oper} {d : Bool} {pos : List PO} {cc : Operand} {px : PX} {x1 y1 : Code} {p1 p2 : PC} {Q : Exit → Act → World → Prop} {x : PExit} {st' : St}, compR E nt vs ops d = some pos → cx E vs ops.toList cc = some px → Cmp E nt vs x1 p1 → Cmp E nt vs y1 p2 →
     LpOK E N nt fid x1 → LpOK E N nt fid y1 → (rd' = none ∨ (p1.RO = true ∧ p2.RO = true)) → ¬ LetsOut Q →
     exec L (m + 1) (.branch pos px p1 p2) st = some (x, st') → KQ N vs nt (.branch pos px p1 p2) x st' w G Q → wpN rd' fid P (.region id ops d) (Exit.then (wpN rd' fid P (.cond cc x1 y1) Q) Q) a w := by
    intro m hm id ops d pos cc px x1 y1 p1 p2 Q x st' hRg hcc hx hy hYx hYy hR hQ h hk
    have ih := @code_sound hF hE hP hmix hnd fid rd' m (fun m' hm' => hcall m' (by omega))
    have hrun := hcall m (by omega)
    simp only [exec] at h
    split at h
    ·rename_i st1 hs1
     split at h
     ·rename_i t ht
      refine wpN_of (region_sound hF hE hP hmix hnd hrun.call (fun _ _ _ _ => callWith_some) hRg hs1 hb (letsOut_then hQ) ?_)
      intro a' w' G' hf he hsz
      have hev := (rd_sound hE hcc hf ht).1
      have hev' : a'.eval cc = .bool t := by generalize a'.eval cc = z at hev; cases hev; rfl
      have hb' := FI.finish (nt := nt) hf hsz
      refine wpN_cond hev' ?_
      have knext : ∀ (pq : PC), (pq = p1 ∨ pq = p2) → KQ N vs nt pq x st' w' G' Q := by
       intro pq hpq a2 w2 G2 e2 h1 h2 h3 h4
       refine hk a2 w2 G2 e2 h1 h2 (ExtD.trans (.of he) h3) (DfR.weak (.of he) he.df h3 h4 ?_)
       intro hn
       simp only [PC.NR, Bool.and_eq_true] at hn
       rcases hpq with rfl | rfl
       ·exact hn.1
       ·exact hn.2
      cases t with
      | true => exact ih hx (by simpa using h) hb' hYx (hR.imp (fun h => h) (·.1)) hQ (knext _ (.inl rfl))
      | false => exact ih hy (by simpa using h) hb' hYy (hR.imp (fun h => h) (·.2)) hQ (knext _ (.inr rfl))
     ·simp at h
    ·simp at h
   have bbranch : ∀ {m : Nat}, m ≤ n → ∀ {id : Nat} {ops : Array Oper} {d : Bool} {pos : List PO} {cc : Operand} {px : PX} {x1 y1 : Code} {p1 p2 : PC} {Q : Exit → Act → World → Prop} {x : PExit} {st' : St}, compB E nt vs ops d = some pos → cx E vs ops.toList cc = some px → Cmp E nt vs x1 p1 → Cmp E nt vs y1 p2 →
     LpOK E N nt fid x1 → LpOK E N nt fid y1 → (rd' = none ∨ (p1.RO = true ∧ p2.RO = true)) → ¬ LetsOut Q →
     exec L (m + 1) (.bbranch pos px p1 p2) st = some (x, st') → KQ N vs nt (.bbranch pos px p1 p2) x st' w G Q → wpN rd' fid P (.region id ops d) (Exit.then (wpN rd' fid P (.cond cc x1 y1) Q) Q) a w := by
    intro m hm id ops d pos cc px x1 y1 p1 p2 Q x st' hRg hcc hx hy hYx hYy hR hQ h hk
    have ih := @code_sound hF hE hP hmix hnd fid rd' m (fun m' hm' => hcall m' (by omega))
    have hrun := hcall m (by omega)
    simp only [exec] at h
    split at h
    ·rename_i st1 hs1
     split at h
     ·rename_i t ht
      refine wpN_of (regionB_sound (res := none) hF hE hP hmix hnd hrun.call hrun.out hrun.round (fun _ _ _ _ => callWith_some) (fun _ _ _ _ => outWith_some) hRg hs1 hb (letsOut_then hQ) ?_ (fun p e => by simp at e))
      intro _ a' w' G' hf he hsz
      have hev := (rd_sound hE hcc hf ht).1
      have hev' : a'.eval cc = .bool t := by generalize a'.eval cc = z at hev; cases hev; rfl
      have hb' := FI.finish (nt := nt) hf hsz
      refine wpN_cond hev' ?_
      have knext : ∀ (pq : PC), (pq = p1 ∨ pq = p2) → KQ N vs nt pq x st' w' G' Q := by
       intro pq hpq a2 w2 G2 e2 h1 h2 h3 h4
       refine hk a2 w2 G2 e2 h1 h2 (ExtD.trans (.of he) h3) (DfR.weak (.of he) he.df h3 h4 ?_)
       intro hn
       simp only [PC.NR, Bool.and_eq_true] at hn
       rcases hpq with rfl | rfl
       ·exact hn.1
       ·exact hn.2
      cases t with
      | true => exact ih hx (by simpa using h) hb' hYx (hR.imp (fun h => h) (·.1)) hQ (knext _ (.inl rfl))
      | false => exact ih hy (by simpa using h) hb' hYy (hR.imp (fun h => h) (·.2)) hQ (knext _ (.inr rfl))
     ·simp at h
    ·rename_i v st1 hs1
     simp only [Option.some.injEq, Prod.mk.injEq] at h
     obtain ⟨rfl, rfl⟩ := h
     refine wpN_of (regionB_sound (res := some v) hF hE hP hmix hnd hrun.call hrun.out hrun.round (fun _ _ _ _ => callWith_some) (fun _ _ _ _ => outWith_some) hRg hs1 hb (letsOut_then hQ) (fun e => by simp at e) ?_)
     rintro p e a' w' G' u hu he hb'
     cases e
     exact hk a' w' G' _ ⟨u, rfl, hu⟩ hb' (.of he) (DfR.plain he.df (by simp))
    ·simp at h
   have nrB : ∀ {pos : List PO} {px : PX} {p1 p2 : PC}, (rd' = none ∨ (PC.branch pos px p1 p2).RO = true) → (rd' = none ∨ (p1.RO = true ∧ p2.RO = true)) := by
    intro pos px p1 p2 h
    exact h.imp id (fun h => by simpa [PC.RO] using h)
   have nrBB : ∀ {pos : List PO} {px : PX} {p1 p2 : PC}, (rd' = none ∨ (PC.bbranch pos px p1 p2).RO = true) → (rd' = none ∨ (p1.RO = true ∧ p2.RO = true)) := by
    intro pos px p1 p2 h
    exact h.imp id (fun h => by simpa [PC.RO] using h)
   have ih := @code_sound hF hE hP hmix hnd fid rd' n (fun m hm => hcall m (by omega))
   have up : ∀ {id : Nat} {ops : Array Oper} {d : Bool} {cc : Operand} {x1 y1 r : Code} {a : Act} {w : World}, wpN rd' fid P (.region id ops d) (Exit.then (wpN rd' fid P (.cond cc x1 y1) (Exit.then (wpN rd' fid P r Q) Q)) (Exit.then (wpN rd' fid P r Q) Q)) a w → wpN rd' fid P (.region id ops d) (Exit.then (wpN rd' fid P (.seq (.cond cc x1 y1) r) Q) Q) a w := by
    intro id ops d cc x1 y1 r a w hw
    refine wpN_mono hw ?_
    intro e a' w' hq
    cases e <;> simp only [Exit.then] at hq ⊢
    ·exact wpN_seq hq
    all_goals exact hq
   cases hc with
   | stuck => simp [stuckC, exec, execReg, isAny, execOps, execFrom, rd, raw, cp] at h
   | skip =>
     simp only [exec, Option.some.injEq, Prod.mk.injEq] at h
     obtain ⟨rfl, rfl⟩ := h
     exact wpN_skip (hk _ _ G .normal rfl hb (ExtD.refl _ _) (DfR.plain rfl (by simp)))
   | exit id =>
     simp only [exec, Option.some.injEq, Prod.mk.injEq] at h
     obtain ⟨rfl, rfl⟩ := h
     exact wpN_exit (hk _ _ G (.exit id) rfl hb (ExtD.refl _ _) (DfR.plain rfl (by simp)))
   | ret =>
     simp only [exec, Option.some.injEq, Prod.mk.injEq] at h
     obtain ⟨rfl, rfl⟩ := h
     exact wpN_ret (hk _ _ G .ret rfl hb (ExtD.refl _ _) (DfR.plain rfl (by simp)))
   | region id ops d pos hRg =>
     simp only [exec, Option.map_eq_some_iff, Prod.mk.injEq] at h
     obtain ⟨st1, hs1, rfl, rfl⟩ := h
     exact wpN_of (region_sound hF hE hP hmix hnd hrun.call (fun _ _ _ _ => callWith_some) hRg hs1 hb hQ (fun a' w' G' hf he hsz => hk a' w' G' .normal rfl (FI.finish hf hsz) (.of he) (DfR.plain he.df (by simp))))
   | mloop id ops y p hm =>
     obtain ⟨pos0, px, it, ds, pos2, pos3, rfl, hall⟩ := mloop_sound (r := rd') (fid := fid) (Q := Q) (id0 := id) hF hE hP hmix hnd hrun.call (fun _ _ _ _ => callWith_some) hm
     simp only [exec, Option.map_eq_some_iff, Prod.mk.injEq] at h
     obtain ⟨st1, hs1, rfl, rfl⟩ := h
     exact hall hs1 hb hQ (fun a' w' G' hb' he => hk a' w' G' .normal rfl hb' (.of he) (DfR.plain he.df (by simp)))
   | bregion id ops d pos hRg =>
     simp only [exec] at h
     split at h
     ·rename_i st1 hs1
      simp only [Option.some.injEq, Prod.mk.injEq] at h
      obtain ⟨rfl, rfl⟩ := h
      refine wpN_of (regionB_sound (res := none) hF hE hP hmix hnd hrun.call hrun.out hrun.round (fun _ _ _ _ => callWith_some) (fun _ _ _ _ => outWith_some) hRg hs1 hb hQ ?_ (fun p e => by simp at e))
      intro _ a' w' G' hf he hsz
      exact hk a' w' G' .normal rfl (FI.finish hf hsz) (.of he) (DfR.plain he.df (by simp))
     ·rename_i v st1 hs1
      simp only [Option.some.injEq, Prod.mk.injEq] at h
      obtain ⟨rfl, rfl⟩ := h
      refine wpN_of (regionB_sound (res := some v) hF hE hP hmix hnd hrun.call hrun.out hrun.round (fun _ _ _ _ => callWith_some) (fun _ _ _ _ => outWith_some) hRg hs1 hb hQ (fun e => by simp at e) ?_)
      rintro p e a' w' G' u hu he hb'
      cases e
      exact hk a' w' G' _ ⟨u, rfl, hu⟩ hb' (.of he) (DfR.plain he.df (by simp))
     ·simp at h
   | raise id ops pos t px hRg =>
     simp only [exec] at h
     split at h
     ·rename_i st1 hs1
      simp only [Option.map_eq_some_iff, Prod.mk.injEq] at h
      obtain ⟨u, hu, rfl, rfl⟩ := h
      refine wpN_of (raise_sound hF hE hP hnd hrun.call (fun _ _ _ _ => callWith_some) hRg hs1 hu hb hQ ?_)
      intro a' w' G' v hv he hb'
      exact hk a' w' G' _ ⟨v, rfl, hv⟩ hb' (.of he) (DfR.plain he.df (by simp))
     ·simp at h
   | branch id ops d pos cc px x1 y1 p1 p2 hRg hcc hx hy =>
     exact wpN_seq (branch (Nat.le_refl _) hRg hcc hx hy (hY.sub (fun z hz => by simp [loopsIn, hz])) (hY.sub (fun z hz => by simp [loopsIn, hz])) (nrB hR) hQ h hk)
   | bbranch id ops d pos cc px x1 y1 p1 p2 hRg hcc hx hy =>
     exact wpN_seq (bbranch (Nat.le_refl _) hRg hcc hx hy (hY.sub (fun z hz => by simp [loopsIn, hz])) (hY.sub (fun z hz => by simp [loopsIn, hz])) (nrBB hR) hQ h hk)
   | branchSeq id ops d pos cc px x1 y1 r p1 p2 pr hRg hcc hx hy hr =>
     simp only [exec] at h
     refine wpN_seq ?_
     have hR1 : rd' = none ∨ (PC.branch pos px p1 p2).RO = true := hR.imp (fun h => h) (fun h => by simp only [PC.RO, Bool.and_eq_true] at h ⊢; exact h.1)
     have hR2 : rd' = none ∨ pr.RO = true := hR.imp (fun h => h) (fun h => by simp only [PC.RO, Bool.and_eq_true] at h; exact h.2)
     split at h
     ·rename_i st1 hs1
      cases n with
      | zero => simp [exec] at hs1
      | succ m =>
        refine up (branch (Nat.le_succ m) hRg hcc hx hy (hY.sub (fun z hz => by simp [loopsIn, hz])) (hY.sub (fun z hz => by simp [loopsIn, hz])) (nrB hR1) (letsOut_then hQ) hs1 ?_)
        intro a' w' G' e he hb' hext hd
        simp only [ExitR] at he
        subst he
        refine ih hr h hb' (hY.sub (fun z hz => by simp [loopsIn, hz])) hR2 hQ ?_
        intro a2 w2 G2 e2 h1 h2 h3 h4
        exact hk a2 w2 G2 e2 h1 h2 (hext.trans h3) (DfR.trans hext hd h3 h4 (fun hn => by simpa only [PC.NR, Bool.and_eq_true] using hn))
     ·simp at h
     ·rename_i hne hna
      cases n with
      | zero => simp [exec] at h
      | succ m =>
        refine up (branch (Nat.le_succ m) hRg hcc hx hy (hY.sub (fun z hz => by simp [loopsIn, hz])) (hY.sub (fun z hz => by simp [loopsIn, hz])) (nrB hR1) (letsOut_then hQ) h ?_)
        refine then_pass (fun e => hne st' (by rw [h, e])) (fun kd caps v e => hna kd caps v st' (by rw [h, e])) ?_
        intro a2 w2 G2 e2 h1 h2 h3 h4
        exact hk a2 w2 G2 e2 h1 h2 h3 (DfR.weak (ExtD.refl _ _) rfl h3 h4 (fun hn => by simp only [PC.NR, Bool.and_eq_true] at hn ⊢; exact hn.1))
   | bbranchSeq id ops d pos cc px x1 y1 r p1 p2 pr hRg hcc hx hy hr =>
     simp only [exec] at h
     refine wpN_seq ?_
     have hR1 : rd' = none ∨ (PC.bbranch pos px p1 p2).RO = true := hR.imp (fun h => h) (fun h => by simp only [PC.RO, Bool.and_eq_true] at h ⊢; exact h.1)
     have hR2 : rd' = none ∨ pr.RO = true := hR.imp (fun h => h) (fun h => by simp only [PC.RO, Bool.and_eq_true] at h; exact h.2)
     split at h
     ·rename_i st1 hs1
      cases n with
      | zero => simp [exec] at hs1
      | succ m =>
        refine up (bbranch (Nat.le_succ m) hRg hcc hx hy (hY.sub (fun z hz => by simp [loopsIn, hz])) (hY.sub (fun z hz => by simp [loopsIn, hz])) (nrBB hR1) (letsOut_then hQ) hs1 ?_)
        intro a' w' G' e he hb' hext hd
        simp only [ExitR] at he
        subst he
        refine ih hr h hb' (hY.sub (fun z hz => by simp [loopsIn, hz])) hR2 hQ ?_
        intro a2 w2 G2 e2 h1 h2 h3 h4
        exact hk a2 w2 G2 e2 h1 h2 (hext.trans h3) (DfR.trans hext hd h3 h4 (fun hn => by simpa only [PC.NR, Bool.and_eq_true] using hn))
     ·simp at h
     ·rename_i hne hna
      cases n with
      | zero => simp [exec] at h
      | succ m =>
        refine up (bbranch (Nat.le_succ m) hRg hcc hx hy (hY.sub (fun z hz => by simp [loopsIn, hz])) (hY.sub (fun z hz => by simp [loopsIn, hz])) (nrBB hR1) (letsOut_then hQ) h ?_)
        refine then_pass (fun e => hne st' (by rw [h, e])) (fun kd caps v e => hna kd caps v st' (by rw [h, e])) ?_
        intro a2 w2 G2 e2 h1 h2 h3 h4
        exact hk a2 w2 G2 e2 h1 h2 h3 (DfR.weak (ExtD.refl _ _) rfl h3 h4 (fun hn => by simp only [PC.NR, Bool.and_eq_true] at hn ⊢; exact hn.1))
   | seq x1 y1 p1 q1 hx hy =>
     simp only [exec] at h
     refine wpN_seq ?_
     have hR1 : rd' = none ∨ p1.RO = true := hR.imp (fun h => h) (fun h => by simp only [PC.RO, Bool.and_eq_true] at h; exact h.1)
     have hR2 : rd' = none ∨ q1.RO = true := hR.imp (fun h => h) (fun h => by simp only [PC.RO, Bool.and_eq_true] at h; exact h.2)
     split at h
     ·rename_i st1 hs1
      refine ih hx hs1 hb (hY.sub (fun z hz => by simp [loopsIn, hz])) hR1 (letsOut_then hQ) ?_
      intro a' w' G' e he hb' hext hd
      simp only [ExitR] at he
      subst he
      refine ih hy h hb' (hY.sub (fun z hz => by simp [loopsIn, hz])) hR2 hQ ?_
      intro a2 w2 G2 e2 h1 h2 h3 h4
      exact hk a2 w2 G2 e2 h1 h2 (hext.trans h3) (DfR.trans hext hd h3 h4 (fun hn => by simpa only [PC.NR, Bool.and_eq_true] using hn))
     ·simp at h
     ·rename_i hne hna
      refine ih hx h hb (hY.sub (fun z hz => by simp [loopsIn, hz])) hR1 (letsOut_then hQ) ?_
      refine then_pass (fun e => hne st' (by rw [h, e])) (fun kd caps v e => hna kd caps v st' (by rw [h, e])) ?_
      intro a2 w2 G2 e2 h1 h2 h3 h4
      exact hk a2 w2 G2 e2 h1 h2 h3 (DfR.weak (ExtD.refl _ _) rfl h3 h4 (fun hn => by simp only [PC.NR, Bool.and_eq_true] at hn ⊢; exact hn.1))
   | cond cc px x1 y1 p1 q1 hcc hx hy =>
     simp only [exec, execReg, isAny, Bool.false_eq_true, if_false, execOps, execFrom] at h
     split at h
     ·rename_i t ht
      have hf := FI.begin (lm := lmap vs []) hb (by intro j t hj; simp [lmap] at hj) 0
      have hev := (rd_sound hE hcc hf ht).1
      have hev' : a.eval cc = .bool t := by generalize a.eval cc = z at hev; cases hev; rfl
      have hb' := FI.finish (nt := nt) hf hb.size
      refine wpN_cond hev' ?_
      have knext : ∀ (pq : PC), (pq = p1 ∨ pq = q1) → KQ N vs nt pq x st' w G Q := by
       intro pq hpq a2 w2 G2 e2 h1 h2 h3 h4
       refine hk a2 w2 G2 e2 h1 h2 h3 (DfR.weak (ExtD.refl _ _) rfl h3 h4 ?_)
       intro hn
       simp only [PC.NR, Bool.and_eq_true] at hn
       rcases hpq with rfl | rfl
       ·exact hn.1
       ·exact hn.2
      cases t with
      | true => exact ih hx (by simpa using h) hb' (hY.sub (c' := x1) (fun z hz => by simp [loopsIn, hz])) ((nrB hR).imp (fun h => h) (·.1)) hQ (knext _ (.inl rfl))
      | false => exact ih hy (by simpa using h) hb' (hY.sub (c' := y1) (fun z hz => by simp [loopsIn, hz])) ((nrB hR).imp (fun h => h) (·.2)) hQ (knext _ (.inr rfl))
     ·simp at h
   | block id x1 p1 hx =>
     simp only [exec] at h
     refine wpN_block ?_
     have hR1 : rd' = none ∨ p1.RO = true := hR
     have hY1 : LpOK E N nt fid x1 := hY
     split at h
     ·rename_i i st1 hs1
      split at h
      ·rename_i hi
       subst hi
       simp only [Option.some.injEq, Prod.mk.injEq] at h
       obtain ⟨rfl, rfl⟩ := h
       refine ih hx hs1 hb hY1 hR1 (letsOut_block hQ) ?_
       intro a' w' G' e he hb' hext hd
       simp only [ExitR] at he
       subst he
       simp only [Exit.inBlock, if_true]
       exact hk a' w' G' .normal rfl hb' hext hd
      ·rename_i hi
       simp only [Option.some.injEq, Prod.mk.injEq] at h
       obtain ⟨rfl, rfl⟩ := h
       refine ih hx hs1 hb hY1 hR1 (letsOut_block hQ) ?_
       intro a' w' G' e he hb' hext hd
       simp only [ExitR] at he
       subst he
       simp only [Exit.inBlock, if_neg hi]
       exact hk a' w' G' _ rfl hb' hext hd
     ·simp at h
     ·rename_i hne hna
      refine ih hx h hb hY1 hR1 (letsOut_block hQ) ?_
      intro a' w' G' e he hb' hext hd
      have := hk a' w' G' e he hb' hext hd
      cases x with
      | normal => simp only [ExitR] at he; subst he; exact this
      | exit i => exact absurd h (fun e => hne _ _ e)
      | ret => simp only [ExitR] at he; subst he; exact this
      | boom v => obtain ⟨u, rfl, _⟩ := he; exact this
      | after kd caps v => exact absurd h (fun e => hna _ _ _ _ e)
   | loop x1 p1 hx =>
     refine wpN_loop_rounds (n + 1) ?_
     have hR1 : rd' = none ∨ p1.RO = true := hR
     have hY1 : LpOK E N nt fid x1 := hY
     have key : ∀ (m : Nat), m ≤ n + 1 → ∀ {st : St} {w : World} {G : GS} {a : Act}, exec L m (.loop p1) st = some (x, st') → BI N w G st a vs nt → KQ N vs nt (.loop p1) x st' w G Q → roundsN rd' fid P x1 Q m a w := by
      intro m
      induction m with
      | zero => intro _ st w G a h; simp [exec] at h
      | succ m ihm =>
        intro hm st w G a h hb hk
        rw [roundsN_succ]
        have ih' := @code_sound hF hE hP hmix hnd fid rd' m (fun m' hm' => hcall m' (by omega))
        simp only [exec] at h
        split at h
        ·rename_i st1 hs1
         refine ih' hx hs1 hb hY1 hR1 (letsOut_then hQ) ?_
         intro a' w' G' e he hb' hext hd
         simp only [ExitR] at he
         subst he
         refine ihm (by omega) h hb' ?_
         intro a2 w2 G2 e2 h1 h2 h3 h4
         exact hk a2 w2 G2 e2 h1 h2 (hext.trans h3) (DfR.trans hext hd h3 h4 (fun hn => ⟨hn, hn⟩))
        ·simp at h
        ·rename_i hne hna
         refine ih' hx h hb hY1 hR1 (letsOut_then hQ) ?_
         refine then_pass (fun e => hne st' (by rw [h, e])) (fun kd caps v e => hna kd caps v st' (by rw [h, e])) ?_
         intro a2 w2 G2 e2 h1 h2 h3 h4
         exact hk a2 w2 G2 e2 h1 h2 h3 h4
     exact key (n + 1) (Nat.le_refl _) h hb hk
   | rangeF g ps as body px kb vars caps hg hl hv =>
     simp only [exec] at h
     split at h
     ·rename_i k first captured cs hrd hrdcs
      split at h
      ·simp at h
      ·rename_i hnr
       have hro : rd' = none := by rcases hR with h | h; exact h; simp [PC.RO] at h
       subst hro
       have hlm : lmap vs [] = (fun _ => none) := by funext j; simp [lmap]
       have hf : FI N w G st a vs (lmap vs []) := by rw [hlm]; exact hb.fi
       have hgf := (rd_sound hE hg hf hrd).1
       obtain ⟨hc1, hc2⟩ := rdAll_sound hE hf hv hrdcs
       have hky : N.yl k = none := hrun.yl k (by simpa using hnr)
       generalize hgv : a.eval g = gv at hgf
       cases hgf with
       | yield _ m l y tmps caps' hy _ _ _ _ _ => rw [hky] at hy; simp at hy
       | func _ fs cs' _ _ hy e1 e2 hfs hcs =>
         have henter := run_enterLoop_outer (P := P) (w := w) fid a.tmps ps as body
         have x1 := new_other hb.fi (.deferred (some []))
         have hsz0 : (w.alloc (.deferred (some []))).heap.size = w.heap.size + 1 := by simp
         have x2 := new_obj x1.2 (ob := .loop true) (mob := .loop { state := .ready, pending := none, fn := fid, tmps := a.tmps, params := ps, assign := as, body := body, defers := w.heap.size }) (by
          rintro G' rfl _
          refine ⟨?_, _, alloc_heap_new, rfl, by simp⟩
          intro o hfx
          have := x1.2.fixlt _ _ hfx
          omega)
         rw [hsz0] at x2
         generalize hw1 : (w.alloc (.deferred (some []))).alloc (.loop { state := .ready, pending := none, fn := fid, tmps := a.tmps, params := ps, assign := as, body := body, defers := w.heap.size }) = w1 at henter x2
         have hl1 : w1.heap[w.heap.size + 1]? = some (.loop { state := .ready, pending := none, fn := fid, tmps := a.tmps, params := ps, assign := as, body := body, defers := w.heap.size }) := by
          rw [← hw1, ← hsz0]; exact alloc_heap_new
         have hd1 : w1.heap[w.heap.size]? = some (.deferred (some [])) := by
          rw [← hw1, alloc_heap_old (by rw [hsz0]; omega)]; exact alloc_heap_new
         have hs1 : w1.heap.size = w.heap.size + 2 := by rw [← hw1]; simp
         have hext1 : Ext w G w1 (G.more (w.heap.size + 1) st.heap.length) := x1.1.trans x2.1
         have f2 := x2.2
         generalize hG1 : G.more (w.heap.size + 1) st.heap.length = G1 at hext1 f2
         have hheap1 : G1.heap st.heap.length = some (w.heap.size + 1) := by rw [← hG1]; simp [GS.more]
         have how1 : G1.ow w.heap.size = none := by
          rw [← hG1]
          simp only [GS.more]
          rw [if_neg (by omega)]
          cases hx : G.ow w.heap.size with
          | none => rfl
          | some kk => have := hb.fi.owlt _ _ hx; omega
         have hyv : VR N w1 G1.fix G1.heap (.func (.yield (w.heap.size + 1)) #[] #[]) (.func kb (.ptr st.heap.length 0 :: cs) []) := by
          refine .yield kb st.heap.length (w.heap.size + 1) ⟨fid, ps, as, body, vars, nt⟩ a.tmps cs (hY ps kb vars hl (ps, as, body) (by simp [loopsIn]) rfl) hheap1 (by simp [loopOf, hl1]) (by simpa using hc1.symm) hb.size ?_
          intro i t p ht hp
          have := (hc2 i (.tmp t) p (by simpa using ht) hp).1
          exact VR.ext (by simpa [Act.eval] using this) hext1
         have hres : (resolve a.eval (rangeCall g (w.heap.size + 1)) 0).run P w1 = .ok { target := .fn (.func (N.fn k)) cs', args := fs ++ #[.func (.yield (w.heap.size + 1)) #[] #[]] } w1 := by
          have hcv : a.eval (.const (.func (.yield (w.heap.size + 1)) #[] #[])) = .func (.yield (w.heap.size + 1)) #[] #[] := rfl
          simp [resolve, rangeCall, hgv, Deferred.ofValue, hcv]
         obtain ⟨pf, hL⟩ : ∃ f, L k = some f := by
          split at h
          ·exact outWith_some (by assumption)
          ·exact outWith_some (by assumption)
          ·simp at h
         have hinv : (invoke (.fn (.func (N.fn k)) cs') (fs ++ #[.func (.yield (w.heap.size + 1)) #[] #[]])).run P w1 = .ok (.enter (N.fn k) (fs ++ #[.func (.yield (w.heap.size + 1)) #[] #[]] ++ cs')) w1 := by
          simp only [invoke]
          exact run_callFunc hF hL _ w1
         have hargs : ∀ (i : Nat) (v : Value) (p : PV), (fs ++ #[.func (.yield (w.heap.size + 1)) #[] #[]] ++ cs')[i]? = some v → (first ++ .func kb (.ptr st.heap.length 0 :: cs) [] :: captured)[i]? = some p → VR N w1 G1.fix G1.heap v p := by
          intro i v p hv' hp
          by_cases hi : i < fs.size
          ·rw [Array.append_assoc, Array.getElem?_append_left hi] at hv'
           rw [List.getElem?_append_left (by omega)] at hp
           exact (hfs i v p hv' hp).ext hext1
          ·rw [Array.append_assoc, Array.getElem?_append_right (by omega)] at hv'
           rw [List.getElem?_append_right (by omega), ← e1] at hp
           cases hn : i - fs.size with
           | zero =>
             rw [hn] at hv' hp
             rw [Array.getElem?_append_left (by simp)] at hv'
             simp at hv' hp
             subst hv' hp
             exact hyv
           | succ m =>
             rw [hn] at hv' hp
             rw [Array.getElem?_append_right (by simp)] at hv'
             simp at hv' hp
             exact (hcs m v p hv' hp).ext hext1
         have hsize : (fs ++ #[Value.func (.yield (w.heap.size + 1)) #[] #[]] ++ cs').size = (first ++ PV.func kb (.ptr st.heap.length 0 :: cs) [] :: captured).length := by simp [e1, e2]; omega
         have marks : ∀ {w' w4 : World} {G' : GS} {e5 : Ext w1 G1 w' G'} {G4 : GS}, w4.heap[w.heap.size]? = w'.heap[w.heap.size]? → G4.ow = G'.ow → Marks w w4 G4 [{ target := .collected w.heap.size, args := #[] }] := by
          intro w' w4 G' e5 G4 hw4 hG4
          refine ⟨[w.heap.size], rfl, by simp, ?_⟩
          intro b hb
          simp only [List.mem_singleton] at hb
          subst hb
          refine ⟨Nat.le_refl _, ?_, ?_⟩
          ·rw [hw4, e5.same _ (by omega) how1]; exact hd1
          ·rw [hG4]
           cases hx : G'.ow w.heap.size with
           | none => rfl
           | some kk =>
             rcases e5.own w.heap.size (by rw [hx]; simp) with h | h
             ·omega
             ·exact absurd how1 h
         have fin : ∀ {x' : PExit} {j : Option Code} {ob : PObj} {u : PV} {h' : List PObj}, outWith (exec L n) L k (first ++ .func kb (.ptr st.heap.length 0 :: cs) [] :: captured) (st.heap ++ [.loop true]) = some (.val u, h') →
           KQ N vs nt (.rangeF px kb caps) x' { st with heap := h'.set st.heap.length .gone } w G Q → ((j = none ∧ x' = .normal) ∨ (j = some .ret ∧ x' = .ret) ∨ ∃ id, j = some (.exit id) ∧ x' = .exit id) →
           h'[st.heap.length]? = some ob → ob ≠ .gone → (∀ (w' : World) (G' : GS) (b : Nat), ObjR N w' G' st.heap.length b ob → (∀ o, ¬ G'.fix b o) ∧ ∃ r : Go.Loop, w'.heap[b]? = some (.loop r) ∧ r.pending = j ∧ r.state ≠ .busy) →
           wpN none fid P (.rangeFunc g ps as body) Q a w := by
          intro x' j ob u h' hcall hk hj hrdy hng hob
          refine wpN_rangeFunc henter hres hinv ((hrun.out k _ _ _ _ hcall hky w1 G1.callee _ (between_callee f2) hsize hargs).mono ?_)
          rintro e w' ⟨G2, ⟨v, rfl, hvr⟩, he, hb2⟩
          obtain ⟨G', hext, hf1, g1, g2⟩ := back_heap f2 he hb2
          rcases hf1.heap.1 st.heap.length _ hrdy with hgo | ⟨b, k1, k2, k3⟩
          ·exact absurd hgo hng
          obtain ⟨kf, r, k3, k4, k5⟩ := hob _ _ _ k3
          have : b = w.heap.size + 1 := by have := hext.heap _ _ hheap1; rw [k1] at this; simpa using this
          subst this
          have hend := run_endLoop (P := P) k3 k5
          have hend := hend.trans (congrArg (fun z => Result.ok z _) k4)
          obtain ⟨e6, hf6⟩ := turn_obj (ob' := .gone) (mob := .loop { r with state := .exhausted }) hf1 k1 k2 kf (by simp [World.shape?, k3]) (by
           intro s hs
           have hlt : w.heap.size + 1 < w'.heap.size := (Array.getElem?_eq_some_iff.1 k3).1
           simp only [loopOf, k3] at hs
           simpa [loopOf, Array.getElem?_setIfInBounds, hlt] using hs) (.inl rfl)
          refine ⟨_, _, hend, ?_⟩
          have hall := (hext1.trans hext).trans e6
          have hf7 := FI.setDf hf6 ([{ target := .collected w.heap.size, args := #[] }] ++ a.defers)
          have last : ∀ e2, ExitR N _ _ x' e2 → Q e2 _ _ := fun e2 hx' => hk { a with defers := [{ target := .collected w.heap.size, args := #[] }] ++ a.defers } (w'.putObj (w.heap.size + 1) (.loop { r with state := .exhausted })) { G' with df := [{ target := .collected w.heap.size, args := #[] }] ++ a.defers } e2 hx' ⟨hf7, hb.size⟩ (Ext.setDf hall _) (by
           have hd : ∃ ms, ([{ target := .collected w.heap.size, args := #[] }] ++ a.defers : List Deferred) = ms ++ G.df ∧ Marks w (w'.putObj (w.heap.size + 1) (.loop { r with state := .exhausted })) { G' with df := [{ target := .collected w.heap.size, args := #[] }] ++ a.defers } ms ∧ ((PC.rangeF px kb caps).NR = true → ms = []) :=
            ⟨[{ target := .collected w.heap.size, args := #[] }], by simp [hb.fi.defers], marks (e5 := hext) (w4 := w'.putObj (w.heap.size + 1) (.loop { r with state := .exhausted })) (G4 := { G' with df := [{ target := .collected w.heap.size, args := #[] }] ++ a.defers }) (by simp [World.putObj, Array.getElem?_setIfInBounds]) rfl, by simp [PC.NR]⟩
           rcases hj with ⟨_, rfl⟩ | ⟨_, rfl⟩ | ⟨id, _, rfl⟩ <;> exact hd)
          rcases hj with ⟨rfl, rfl⟩ | ⟨rfl, rfl⟩ | ⟨id, rfl, rfl⟩
          ·exact last _ rfl
          ·exact wpN_ret (last _ rfl)
          ·exact wpN_exit (last _ rfl)
         split at h
         ·rename_i u h' hcall
          split at h
          ·rename_i hrdy
           simp only [Option.some.injEq, Prod.mk.injEq] at h
           obtain ⟨rfl, rfl⟩ := h
           exact fin hcall hk (.inl ⟨rfl, rfl⟩) hrdy (by simp) (fun w' G' b ⟨kf, r, k3, k4, k5⟩ => ⟨kf, r, k3, k4, by rw [k5]; simp⟩)
          ·rename_i id hrdy
           simp only [Option.some.injEq, Prod.mk.injEq] at h
           obtain ⟨rfl, rfl⟩ := h
           exact fin hcall hk (.inr (.inr ⟨id, rfl, rfl⟩)) hrdy (by simp) (fun w' G' b ⟨kf, r, k3, k4, k5⟩ => ⟨kf, r, k3, k4, by rw [k5]; simp⟩)
          ·rename_i hrdy
           simp only [Option.some.injEq, Prod.mk.injEq] at h
           obtain ⟨rfl, rfl⟩ := h
           exact fin hcall hk (.inr (.inl ⟨rfl, rfl⟩)) hrdy (by simp) (fun w' G' b ⟨kf, r, k3, k4, k5⟩ => ⟨kf, r, k3, k4, by rw [k5]; simp⟩)
          ·simp at h
         ·rename_i v h' hcall
          simp only [Option.some.injEq, Prod.mk.injEq] at h
          obtain ⟨rfl, rfl⟩ := h
          refine wpN_rangeFunc henter hres hinv ((hrun.out k _ _ _ _ hcall hky w1 G1.callee _ (between_callee f2) hsize hargs).mono ?_)
          rintro e w' ⟨G2, ⟨u, rfl, hvr⟩, he, hb2⟩
          obtain ⟨G', hext, hf1, g1, g2⟩ := back_heap f2 he hb2
          have hall := hext1.trans hext
          have hf7 := FI.setDf hf1 ([{ target := .collected w.heap.size, args := #[] }] ++ a.defers)
          refine hk _ _ _ _ ⟨u, rfl, by rw [← g1, ← g2] at hvr; exact hvr⟩ ⟨hf7, hb.size⟩ (Ext.setDf hall _) ⟨[{ target := .collected w.heap.size, args := #[] }], by simp [hb.fi.defers], marks (e5 := hext) rfl rfl, by simp [PC.NR]⟩
         ·simp at h
     ·simp at h
   | guarded id ops kd caps y q hd hy =>
     simp only [exec] at h
     split at h
     ·simp at h
     ·rename_i hnr
      have hqn : q.NR = true := by simpa using hnr
      have hro : rd' = none := by rcases hR with h | h; exact h; simp [PC.RO] at h
      subst hro
      split at h
      ·rename_i cs hrdcs
       unfold compDefer at hd
       split at hd
       ·rename_i d f first pcaps ty1 ps1 af1 d' args ts2 ty2 ps2 af2 hops
        split at hd
        ·rename_i hdd
         obtain ⟨rfl, hdv, hdn, hfi0, har0⟩ := hdd
         simp only [Option.bind_eq_some_iff, Option.map_eq_some_iff, Prod.mk.injEq] at hd
         obtain ⟨k0, hk0, pcs, hpcs, rfl, rfl⟩ := hd
         have hlm : lmap vs [] = (fun _ => none) := by funext j; simp [lmap]
         have hf : FI N w G st a vs (lmap vs []) := by rw [hlm]; exact hb.fi
         obtain ⟨hc1, hc2⟩ := rdAll_sound hE hf hpcs hrdcs
         obtain ⟨ops⟩ := ops
         simp only at hops
         subst hops
         have hfi0' : first = #[] := by cases first; simpa using hfi0
         have har0' : args = #[] := by cases args; simpa using har0
         subst hfi0' har0'
         have hfn := hE.fn _ _ hk0
         refine wpN_seq (wpN_of (n := 0) (wpIn_region ?_))
         have hsz2 : List.range (Array.mk [({ dst := some d, op := .makeFunc (.func f) #[] pcaps, type := ty1, pos := ps1, after := af1, guard := none } : Oper), { dst := none, op := .defer { callee := .value (.tmp d), args := #[], argTypes := ts2 }, type := ty2, pos := ps2, after := af2, guard := none }]).size = [0, 1] := rfl
         rw [hsz2, wpOpsIn_cons]
         unfold wpOpIn
         simp only [List.getElem?_toArray, List.getElem?_cons_zero, Region.wanted, if_true]
         refine ⟨fun _ _ => W_fn _, ?_⟩
         rw [show (W none).round = none from rfl, Oper.semAt_none]
         have hrun1 : (execOp a.eval ({ dst := some d, op := .makeFunc (.func f) #[] pcaps, type := ty1, pos := ps1, after := af1, guard := none } : Oper)).run P w = .ok (.value (.func (.func f) #[] (pcaps.map a.eval))) w := by
          simp [execOp, Instr.makeFunc]
         rw [hrun1, Oper.uponIn_value]
         rw [wpOpsIn_cons]
         unfold wpOpIn
         simp only [List.getElem?_toArray, List.getElem?_cons_succ, List.getElem?_cons_zero, Region.wanted, if_true]
         refine ⟨fun _ _ => W_fn _, ?_⟩
         rw [show (W none).round = none from rfl, Oper.semAt_none]
         have hev : (a.put (some d) (.func (.func f) #[] (pcaps.map a.eval))).eval (.tmp d) = .func (.func f) #[] (pcaps.map a.eval) := by
          have : d < a.tmps.size := Nat.lt_of_lt_of_le hdn hb.size
          simp [Act.eval, Act.put, Array.getD_eq_getD_getElem?, Array.getElem?_setIfInBounds, this]
         have hrun2 : (execOp (a.put (some d) (.func (.func f) #[] (pcaps.map a.eval))).eval ({ dst := none, op := .defer { callee := .value (.tmp d), args := #[], argTypes := ts2 }, type := ty2, pos := ps2, after := af2, guard := none } : Oper)).run P w =
           .ok (.defer { target := .fn (.func f) (pcaps.map a.eval), args := #[] }) w := by
          simp [execOp, resolve, hev, Deferred.ofValue]
         rw [hrun2, Oper.uponIn_defer]
         simp only [wpOpsIn]
         have b1 := hb.putOther hdv (.func (.func f) #[] (pcaps.map a.eval))
         generalize hdd : ({ target := .fn (.func f) (pcaps.map a.eval), args := #[] } : Deferred) = dd
         have b2 : BI N w { G with df := dd :: a.defers } st { a.put (some d) (.func (.func f) #[] (pcaps.map a.eval)) with defers := dd :: a.defers } vs nt := ⟨FI.setDf b1.fi _, b1.size⟩
         have hclo : ∀ (w' : World) (G' : GS), ExtD w { G with df := dd :: a.defers } w' G' → G'.df = dd :: a.defers → Clo N w' G' k0 cs := by
          intro w' G' hext hdf
          refine ⟨dd, a.defers, pcaps.map a.eval, hdf, by rw [← hdd, hfn], by simpa using hc1, ?_⟩
          intro i v p hv hp
          simp only [Array.getElem?_map, Option.map_eq_some_iff] at hv
          obtain ⟨x, hx, rfl⟩ := hv
          have hxx : Ext w { G with df := G'.df } w' G' := hext
          exact VR.mono (hc2 i x p (by simpa using hx) hp).1 hxx.fix hxx.heap hxx.shape
         have run : ∀ (x0 : PExit) (st1 : St), exec L n q st = some (x0, st1) → x0.plain = true → KQ N vs nt q x0 st1 w { G with df := dd :: a.defers } Q → wpN none fid P y Q { a.put (some d) (.func (.func f) #[] (pcaps.map a.eval)) with defers := dd :: a.defers } w := by
          intro x0 st1 hx0 _ hkq
          exact ih hy hx0 b2 (hY.sub (fun z hz => by simp [loopsIn, hz])) (.inl rfl) hQ hkq
         have dfs : ∀ {x0 : PExit} {w' : World} {G' : GS}, x0.plain = true → DfR q x0 w { G with df := dd :: a.defers } w' G' → G'.df = dd :: a.defers := by
          intro x0 w' G' hx0 hd
          have key : (∃ ms, G'.df = ms ++ (dd :: a.defers) ∧ Marks w w' G' ms ∧ (q.NR = true → ms = [])) → G'.df = dd :: a.defers := by
           rintro ⟨ms, h1, _, h3⟩
           rw [h1, h3 hqn]; rfl
          cases x0 with
          | after _ _ _ => simp [PExit.plain] at hx0
          | normal => exact key hd
          | exit _ => exact key hd
          | ret => exact key hd
          | boom _ => exact key hd
         have hdA : ∀ {w' : World} {G' : GS} {v : Option PV}, G'.df = dd :: a.defers → DfR (.guarded k0 pcs q) (.after k0 cs v) w G w' G' := fun h _ => ⟨dd, by rw [h, hb.fi.defers]⟩
         split at h
         ·rename_i st1 hx0
          simp only [Option.some.injEq, Prod.mk.injEq] at h
          obtain ⟨rfl, rfl⟩ := h
          refine run .normal _ hx0 rfl ?_
          intro a' w' G' e he hb' hext hdf
          have hdf' := dfs rfl hdf
          exact hk a' w' G' e ⟨.inl he, hclo w' G' hext hdf'⟩ hb' hext (hdA hdf')
         ·rename_i st1 hx0
          simp only [Option.some.injEq, Prod.mk.injEq] at h
          obtain ⟨rfl, rfl⟩ := h
          refine run .ret _ hx0 rfl ?_
          intro a' w' G' e he hb' hext hdf
          have hdf' := dfs rfl hdf
          exact hk a' w' G' e ⟨.inr he, hclo w' G' hext hdf'⟩ hb' hext (hdA hdf')
         ·rename_i v st1 hx0
          simp only [Option.some.injEq, Prod.mk.injEq] at h
          obtain ⟨rfl, rfl⟩ := h
          refine run (.boom v) _ hx0 rfl ?_
          intro a' w' G' e he hb' hext hdf
          have hdf' := dfs rfl hdf
          exact hk a' w' G' e ⟨he, hclo w' G' hext hdf'⟩ hb' hext (hdA hdf')
         ·simp at h
        ·simp at hd
       ·simp at hd
      ·simp at h
end
end PI
