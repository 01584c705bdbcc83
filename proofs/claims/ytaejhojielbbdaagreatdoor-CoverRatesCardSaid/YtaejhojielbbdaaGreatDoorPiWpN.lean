/-
  The machine's rules for the code of one function, in its own frame or in a round's.
-/
import Derived.Test.YtaejhojielbbdaaGreatDoorPiSoundB
set_option linter.unusedSimpArgs false
set_option linter.unusedVariables false
set_option linter.unusedSectionVars false
namespace PI
open Go
/-- Code of the function fid, run in a frame of its own (none), or in a round's. -/
def wpN (r : Option Nat) (fid : FuncId) (P : Program) (c : Code) (Q : Exit → Act → World → Prop) (a : Act) (w : World) : Prop :=
 ∀ (b : Frame) (k : List Item) (cs : List Frame), b.roundOf = r → b.fn = fid →
   ∃ e a' w', Q e a' w' ∧ ArrivesIn (Machine.fenced P (W r)) P (lone (b.atR a (.code c :: k)) cs w) b k cs e a' w'
section
variable {P : Program} {r : Option Nat} {fid : FuncId} {n : Nat} {Q : Exit → Act → World → Prop} {a : Act} {w : World}
theorem wpN_of {c : Code} (h : c.wpIn (W r) n P Q a w) : wpN r fid P c Q a w := fun b k cs hro _ => h b k cs hro (W_fn _) (W_room _)
theorem wpN_mono {c : Code} {Q' : Exit → Act → World → Prop} (h : wpN r fid P c Q a w) (hq : ∀ e a w, Q e a w → Q' e a w) : wpN r fid P c Q' a w :=
 fun b k cs hro hb => let ⟨e, a', w', q, r⟩ := h b k cs hro hb; ⟨e, a', w', hq _ _ _ q, r⟩
theorem wpN_skip (h : Q .normal a w) : wpN r fid P .skip Q a w := fun _ _ _ _ _ => ⟨.normal, a, w, h, .one (fencedW _) stepR_skip⟩
theorem wpN_exit {id : Nat} (h : Q (.exit id) a w) : wpN r fid P (.exit id) Q a w :=
 fun _ k _ _ _ => ⟨.exit id, a, w, h, fun _ hk => .one (fencedW _) (stepR_exit hk), fun _ hk => ⟨k, hk, .refl _⟩⟩
theorem wpN_ret (h : Q .ret a w) : wpN r fid P .ret Q a w :=
 fun _ k _ _ _ => ⟨.ret, a, w, h, fun hn => ⟨_, .one (fencedW _) (stepR_ret hn)⟩, fun _ => ⟨k, .refl _⟩⟩
theorem wpN_seq {x y : Code} (h : wpN r fid P x (Exit.then (wpN r fid P y Q) Q) a w) : wpN r fid P (.seq x y) Q a w := by
 intro b k cs hro hb
 have h0 : (lone (b.atR a (.code (.seq x y) :: k)) cs w).fenced P (W r) := fencedW _
 obtain ⟨e, a₁, w₁, hq, harr⟩ := h b (.code y :: k) cs hro hb
 cases e with
 | normal =>
   obtain ⟨e₂, a₂, w₂, hq₂, harr₂⟩ := hq b k cs hro hb
   exact ⟨e₂, a₂, w₂, hq₂, .of_steps (.head h0 stepR_seq harr) harr₂⟩
 | exit id => exact ⟨_, a₁, w₁, hq, .of_steps (.one h0 stepR_seq) (.pass (x := .code y) rfl (fun _ _ => .inl (by simp)) harr)⟩
 | goto l => exact ⟨_, a₁, w₁, hq, .of_steps (.one h0 stepR_seq) (.pass (x := .code y) rfl (fun _ _ => .inl (by simp)) harr)⟩
 | ret => exact ⟨_, a₁, w₁, hq, .of_steps (.one h0 stepR_seq) (.pass (x := .code y) rfl (fun _ _ => .inl (by simp)) harr)⟩
 | panic ch => exact ⟨_, a₁, w₁, hq, .of_steps (.one h0 stepR_seq) (.pass (x := .code y) rfl (fun _ _ => .inl (by simp)) harr)⟩
 | outgrown => exact ⟨_, a₁, w₁, hq, .of_steps (.one h0 stepR_seq) (.pass (x := .code y) rfl (fun _ _ => .inl (by simp)) harr)⟩
theorem wpN_cond {c : Operand} {x y : Code} {t : Bool} (hc : a.eval c = .bool t) (h : wpN r fid P (if t then x else y) Q a w) : wpN r fid P (.cond c x y) Q a w :=
 fun b k cs hro hb => let ⟨e, a', w', q, r⟩ := h b k cs hro hb; ⟨e, a', w', q, .of_steps (.one (fencedW _) (stepR_cond hc)) r⟩
theorem wpN_block {id : Nat} {c : Code} (h : wpN r fid P c (Exit.inBlock id Q) a w) : wpN r fid P (.block id c) Q a w := by
 intro b k cs hro hb
 have h0 : (lone (b.atR a (.code (.block id c) :: k)) cs w).fenced P (W r) := fencedW _
 obtain ⟨e, a₁, w₁, hq, harr⟩ := h b (.inBlock id :: k) cs hro hb
 cases e with
 | normal => exact ⟨.normal, a₁, w₁, hq, .head h0 stepR_block (StepsIn.trans harr (.one (fencedW _) stepR_inBlock))⟩
 | exit id' =>
   by_cases hid : id' = id
   ·simp only [Exit.inBlock, hid, if_true] at hq
    exact ⟨.normal, a₁, w₁, hq, .head h0 stepR_block (harr.1 k (by simp [exitTo, hid]))⟩
   ·simp only [Exit.inBlock, hid, if_false] at hq
    have this : (id == id') = false := by simp; exact fun h => hid h.symm
    have hx : exitTo id' (.inBlock id :: k) = exitTo id' k := by simp [exitTo, this]
    exact ⟨.exit id', a₁, w₁, hq, fun k' hk => .head h0 stepR_block (harr.1 k' (by rw [hx]; exact hk)),
     fun hr' hk => let ⟨k₁, h1, h2⟩ := harr.2 hr' (by rw [hx]; exact hk); ⟨k₁, h1, .head h0 stepR_block h2⟩⟩
 | goto l =>
   have hx : gotoIn l (.inBlock id :: k) = gotoIn l k := by simp [gotoIn]
   exact ⟨_, a₁, w₁, hq, fun k' hk => .head h0 stepR_block (harr.1 k' (by rw [hx]; exact hk)),
    fun hr' hk => let ⟨k₁, h1, h2⟩ := harr.2 hr' (by rw [hx]; exact hk); ⟨k₁, h1, .head h0 stepR_block h2⟩⟩
 | ret => exact ⟨_, a₁, w₁, hq, .of_steps (.one h0 stepR_block) harr⟩
 | panic ch => exact ⟨_, a₁, w₁, hq, .of_steps (.one h0 stepR_block) harr⟩
 | outgrown => exact ⟨_, a₁, w₁, hq, .of_steps (.one h0 stepR_block) harr⟩
def roundsN (r : Option Nat) (fid : FuncId) (P : Program) (c : Code) (Q : Exit → Act → World → Prop) : Nat → Act → World → Prop
 | 0, _, _ => False
 | m + 1, a, w => wpN r fid P c (Exit.then (roundsN r fid P c Q m) Q) a w
theorem roundsN_succ {c : Code} {m : Nat} : roundsN r fid P c Q (m + 1) a w = wpN r fid P c (Exit.then (roundsN r fid P c Q m) Q) a w := rfl
theorem wpN_loop_rounds {c : Code} (m : Nat) (h : roundsN r fid P c Q m a w) : wpN r fid P (.loop c) Q a w := by
 intro b k cs hro hb
 have key : ∀ m a w, roundsN r fid P c Q m a w →
   ∃ e a' w', Q e a' w' ∧ ArrivesIn (Machine.fenced P (W r)) P (lone (b.atR a (.code c :: .inLoop c :: k)) cs w) b k cs e a' w' := by
  intro m
  induction m with
  | zero => intro a w h; exact h.elim
  | succ m ih =>
    intro a w h
    obtain ⟨e, a₁, w₁, hq, harr⟩ := h b (.inLoop c :: k) cs hro hb
    cases e with
    | normal =>
      obtain ⟨e₂, a₂, w₂, hq₂, harr₂⟩ := ih a₁ w₁ hq
      exact ⟨e₂, a₂, w₂, hq₂, .of_steps (StepsIn.trans harr (.one (fencedW _) stepR_inLoop)) harr₂⟩
    | exit id => exact ⟨_, a₁, w₁, hq, .pass (x := .inLoop c) rfl (fun _ _ => .inl (by simp)) harr⟩
    | goto l => exact ⟨_, a₁, w₁, hq, .pass (x := .inLoop c) rfl (fun _ _ => .inl (by simp)) harr⟩
    | ret => exact ⟨_, a₁, w₁, hq, .pass (x := .inLoop c) rfl (fun _ _ => .inl (by simp)) harr⟩
    | panic ch => exact ⟨_, a₁, w₁, hq, .pass (x := .inLoop c) rfl (fun _ _ => .inl (by simp)) harr⟩
    | outgrown => exact ⟨_, a₁, w₁, hq, .pass (x := .inLoop c) rfl (fun _ _ => .inl (by simp)) harr⟩
 obtain ⟨e, a', w', hq, harr⟩ := key m a w h
 exact ⟨e, a', w', hq, .of_steps (.one (fencedW _) stepR_loop) harr⟩
/-- A range over a function, in a function's own frame. -/
theorem wpN_rangeFunc {g : Operand} {ps : Array Tmp} {assign body : Code} {l : Nat} {mark : List Deferred} {w₁ : World} {d : Deferred} {f : FuncId} {args : Array Value}
  (he : (Instr.enterLoop fid a.tmps ps assign body none).run P w = .ok (l, mark) w₁) (hres : (resolve a.eval (rangeCall g l) 0).run P w₁ = .ok d w₁) (hinv : (invoke d.target d.args).run P w₁ = .ok (.enter f args) w₁)
  (hc : Calls P f args w₁ fun
   | .returned _, w₃ => ∃ j w₄, (Instr.endLoop l).run P w₃ = .ok j w₄ ∧ (match j with
     | none => Q .normal { a with defers := mark ++ a.defers } w₄
     | some c => wpN none fid P c Q { a with defers := mark ++ a.defers } w₄)
   | .panicked chain, w₃ => Q (.panic chain) { a with defers := mark ++ a.defers } w₃
   | .outgrown, _ => LetsOut Q) : wpN none fid P (.rangeFunc g ps assign body) Q a w := by
 intro b k cs hro hb
 subst hb
 rw [← hro] at he
 have henter := stepR_rangeFunc (P := P) (b := b) (a := a) (k := k) (cs := cs) (w := w) he hres hinv
 obtain ⟨e, w₃, fr, hR, hsteps, hfn, hleave⟩ := (callsW (r := none) (n := 0) hc).2 (b.atR { a with defers := mark ++ a.defers } (.inRangeFunc l :: k) :: cs) (W_room _)
 cases e with
 | outgrown =>
   obtain ⟨a₀, w₀, hq⟩ := hR
   exact ⟨.outgrown, a₀, w₀, hq, .inr (Outgrown.of_steps (.one henter) hsteps)⟩
 | returned v =>
   obtain ⟨j, w₄, hend, hj⟩ := hR
   have sback : StepsIn (Machine.fenced P (W none)) P (lone (b.atR a (.code (.rangeFunc g ps assign body) :: k)) cs w) (lone (b.atR { a with defers := mark ++ a.defers } ((j.map Item.code).toList ++ k)) cs w₄) := by
    refine .head (fencedW _) henter (StepsIn.trans hsteps (.head (fencedW _) ?_ (.one (fencedW _) (stepR_endRangeFunc (b := b) (a := { a with defers := mark ++ a.defers }) (k := k) hend))))
    rw [← finish_atR_inRangeFunc l v]; exact step_leave_returned hleave
   cases j with
   | none => exact ⟨.normal, _, w₄, hj, sback⟩
   | some c =>
     obtain ⟨e₂, a₂, w₅, hq, hr⟩ := hj b k cs hro rfl
     exact ⟨e₂, a₂, w₅, hq, .of_steps sback hr⟩
 | panicked chain =>
   refine ⟨.panic chain, _, w₃, hR, .inRangeFunc l :: k, .head (fencedW _) henter (StepsIn.trans hsteps (.one (fencedW _) ?_))⟩
   rw [← Frame.raise_atR]; exact step_leave_panicked hleave
/-- What is asked at a function's end. -/
def endM (P : Program) (fn : Func) (R : Ending → World → Prop) : Exit → Act → World → Prop
 | .normal, a, w | .ret, a, w => LeavesInM (W none) 0 P fn a.tmps R a.defers .returning w
 | .panic chain, a, w => LeavesInM (W none) 0 P fn a.tmps R a.defers (.panicking chain) w
 | _, _, _ => False
theorem calls_of_wpN {f : FuncId} {fn : Func} {c : Code} {args : Array Value} {R : Ending → World → Prop} (hf : P.funcs[f]? = some fn) (hb : fn.body = some c)
  (h : wpN none f P c (endM P fn R) { tmps := args ++ Array.replicate (fn.ntmps - args.size) undef, defers := [] } w) : Calls P f args w R := by
 refine calls_of_W (r := none) (n := 0) ⟨trivial, fun cs hr => ?_⟩
 let b : Frame := { (default : Frame) with fn := f, kind := .normal, roundOf := none }
 have henter : Frame.enter P f args .normal = b.atR { tmps := args ++ Array.replicate (fn.ntmps - args.size) undef, defers := [] } [.code c] := by
  simp [Frame.enter, Frame.atR, hf, hb, b]
 obtain ⟨e, a', w', hq, harr⟩ := h b [] cs rfl rfl
 rw [← henter] at harr
 cases e with
 | normal =>
   obtain ⟨e', w'', fr', hR, hs, hfn, hl⟩ := leaves_stepsInM a'.defers .returning w' { b.atR a' [] with mode := .returning } cs rfl rfl rfl hf rfl trivial (W_room _) hq
   exact ⟨e', w'', fr', hR, ComesIn.of_steps (StepsIn.trans harr (.one (fencedW _) (stepR_end rfl))) hs, hfn, hl⟩
 | ret =>
   obtain ⟨todo, hs₀⟩ := harr.1 rfl
   obtain ⟨e', w'', fr', hR, hs, hfn, hl⟩ := leaves_stepsInM a'.defers .returning w' { b.atR a' todo with mode := .returning } cs rfl rfl rfl hf rfl trivial (W_room _) hq
   exact ⟨e', w'', fr', hR, ComesIn.of_steps hs₀ hs, hfn, hl⟩
 | panic chain =>
   obtain ⟨todo, hs₀⟩ := harr
   obtain ⟨e', w'', fr', hR, hs, hfn, hl⟩ := leaves_stepsInM a'.defers (.panicking chain) w' { b.atR a' todo with mode := .panicking chain } cs rfl rfl rfl hf rfl trivial (W_room _) hq
   exact ⟨e', w'', fr', hR, ComesIn.of_steps hs₀ hs, hfn, hl⟩
 | exit id => exact hq.elim
 | goto l => exact hq.elim
 | outgrown => exact hq.elim
/-- A round. -/
theorem roundN {l : Nat} {f : FuncId} {fn : Func} {tmps : Array Value} {assign body : Code} {R : Ending → World → Prop} (hfn : P.funcs[f]? = some fn)
  (h : wpN (some l) f P assign (Exit.then (fun a₁ w₁ => ∃ w₂, (Instr.beginRound l).run P w₁ = .ok () w₂ ∧ wpN (some l) f P body (roundPostP P l R) a₁ w₂) (fun _ _ _ => False)) { tmps := tmps, defers := [] } w) :
  RoundIn (W r) n P l f tmps assign body w R := by
 refine ⟨W_fn _, fun c cs hr => ?_⟩
 let b : Frame := { (default : Frame) with fn := f, kind := .normal, roundOf := some l }
 have hb0 : Frame.round l f tmps assign body .normal = b.atR { tmps := tmps, defers := [] } [.code assign, .beginRound, .code body] := by
  simp [Frame.round, Frame.atR, b]
 obtain ⟨e, a₁, w₁, hq, harr⟩ := h b [.beginRound, .code body] (c :: cs) rfl rfl
 rw [← hb0] at harr
 cases e with
 | normal =>
   obtain ⟨w₂, hbr, hbody⟩ := hq
   have s1 : StepsIn (Machine.fenced P (W (some l))) P (lone (b.atR a₁ [.beginRound, .code body]) (c :: cs) w₁) (lone (b.atR a₁ [.code body]) (c :: cs) w₂) :=
    .one (fencedW _) (stepR_beginRound rfl hbr)
   obtain ⟨e₂, a₂, w₃, hq₂, harr₂⟩ := hbody b [] (c :: cs) rfl rfl
   cases e₂ with
   | normal =>
     obtain ⟨v, w₄, hend, hR⟩ := hq₂
     exact ⟨.returned v, w₄, hR, (StepsIn.trans harr s1).trans (StepsIn.trans harr₂ (.one (fencedW _) (stepR_round_end rfl rfl hend)))⟩
   | panic chain =>
     obtain ⟨hd, hR⟩ := hq₂
     obtain ⟨todo, hs⟩ := harr₂
     refine ⟨.panicked chain, w₃, hR, (StepsIn.trans harr s1).trans (StepsIn.trans hs (.one (fencedW _) (step_round_panic (fn := fn) rfl ?_ hfn)))⟩
     exact hd
   | ret =>
     obtain ⟨v, w₄, hend, hR⟩ := hq₂
     obtain ⟨k₁, hs⟩ := harr₂.2 rfl
     exact ⟨.returned v, w₄, hR, (StepsIn.trans harr s1).trans (StepsIn.trans hs (.one (fencedW _) (stepR_round_ret rfl rfl hend)))⟩
   | exit id =>
     obtain ⟨v, w₄, hend, hR⟩ := hq₂
     obtain ⟨k₁, hk, hs⟩ := harr₂.2 rfl rfl
     exact ⟨.returned v, w₄, hR, (StepsIn.trans harr s1).trans (StepsIn.trans hs (.one (fencedW _) (stepR_round_exit rfl rfl hk hend)))⟩
   | goto t => exact hq₂.elim
   | outgrown => exact hq₂.elim
 | exit id => exact hq.elim
 | goto t => exact hq.elim
 | ret => exact hq.elim
 | panic chain => exact hq.elim
 | outgrown => exact hq.elim
end
end PI
