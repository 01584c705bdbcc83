/-
  What a run must come to, by continuations.
-/
import Derived.Test.YtaejhojielbbdaaGreatDoorPiSimpH
set_option linter.unusedVariables false
set_option linter.unusedSimpArgs false
set_option linter.unusedSectionVars false
namespace PI
open Go (IntKind BinOp UnOp)
/-- A run comes to an end, of which Q holds. -/
def wpL (L : Nat → Option PFunc) (c : PC) (st : St) (Q : PExit → St → Prop) : Prop :=
 match evL L c st with
 | some (e, st') => Q e st'
 | none => False
section
variable {L : Nat → Option PFunc} {V l : List PV} {g : Nat} {h : List PObj} {Q : PExit → St → Prop}
theorem wpL_iff {c : PC} {st : St} : wpL L c st Q ↔ ∃ e st', evL L c st = some (e, st') ∧ Q e st' := by
 unfold wpL
 cases evL L c st with
 | none => simp
 | some r =>
   obtain ⟨e, st'⟩ := r
   constructor
   ·intro h; exact ⟨e, st', rfl, h⟩
   ·rintro ⟨e', st2, h1, h2⟩; cases h1; exact h2
theorem wpL_mono {c : PC} {st : St} {Q' : PExit → St → Prop} (hw : wpL L c st Q) (hq : ∀ e st', Q e st' → Q' e st') : wpL L c st Q' := by
 rw [wpL_iff] at *
 obtain ⟨e, st', h1, h2⟩ := hw
 exact ⟨e, st', h1, hq _ _ h2⟩
@[simp] theorem wpL_skip : wpL L .skip ⟨V, l, g, h⟩ Q = Q .normal ⟨V, l, g, h⟩ := by simp only [wpL, evL_skip]
@[simp] theorem wpL_exit (id : Nat) : wpL L (.exit id) ⟨V, l, g, h⟩ Q = Q (.exit id) ⟨V, l, g, h⟩ := by simp only [wpL, evL_exit]
@[simp] theorem wpL_ret : wpL L .ret ⟨V, l, g, h⟩ Q = Q .ret ⟨V, l, g, h⟩ := by simp only [wpL, evL_ret]
/-- What follows operations. -/
def thenR (r : Option St) (K : St → Prop) : Prop :=
 match r with
 | some st => K (closed st)
 | none => False
@[simp] theorem thenR_some (V l : List PV) (g : Nat) (h : List PObj) (K : St → Prop) : thenR (some ⟨V, l, g, h⟩) K = K ⟨V, [], g, h⟩ := rfl
@[simp] theorem thenR_none (K : St → Prop) : thenR none K = False := rfl
@[simp] theorem wpL_region (ops : List PO) : wpL L (.region ops) ⟨V, l, g, h⟩ Q = thenR (execReg (callL L) ops ⟨V, l, g, h⟩) (Q .normal) := by
 simp only [wpL, evL_region_mk]
 cases execReg (callL L) ops ⟨V, l, g, h⟩ <;> rfl
/-- What follows a test. -/
def thenB (L : Nat → Option PFunc) (r : Option St) (x : PX) (a b : PC) (Q : PExit → St → Prop) : Prop :=
 match r with
 | some st => (match rd st x with
   | some (.bool t) => if t = true then wpL L a (closed st) Q else wpL L b (closed st) Q
   | _ => False)
 | none => False
@[simp] theorem thenB_some (x : PX) (a b : PC) : thenB L (some ⟨V, l, g, h⟩) x a b Q = match rd ⟨V, l, g, h⟩ x with
  | some (.bool t) => if t = true then wpL L a ⟨V, [], g, h⟩ Q else wpL L b ⟨V, [], g, h⟩ Q
  | _ => False := rfl
@[simp] theorem thenB_none (x : PX) (a b : PC) : thenB L none x a b Q = False := rfl
@[simp] theorem wpL_branch (ops : List PO) (x : PX) (a b : PC) : wpL L (.branch ops x a b) ⟨V, l, g, h⟩ Q = thenB L (execReg (callL L) ops ⟨V, l, g, h⟩) x a b Q := by
 simp only [wpL, evL_branch_mk, thenB]
 cases execReg (callL L) ops ⟨V, l, g, h⟩ with
 | none => rfl
 | some st =>
   simp only
   cases rd st x with
   | none => rfl
   | some v =>
     cases v <;> try rfl
     rename_i t; cases t <;> rfl
def seqK (L : Nat → Option PFunc) (b : PC) (Q : PExit → St → Prop) : PExit → St → Prop
 | .normal, st => wpL L b st Q
 | .after _ _ _, _ => False
 | e, st => Q e st
@[simp] theorem seqK_normal (b : PC) (st : St) : seqK L b Q .normal st = wpL L b st Q := rfl
@[simp] theorem seqK_exit (b : PC) (i : Nat) (st : St) : seqK L b Q (.exit i) st = Q (.exit i) st := rfl
@[simp] theorem seqK_ret (b : PC) (st : St) : seqK L b Q .ret st = Q .ret st := rfl
@[simp] theorem seqK_boom (b : PC) (v : PV) (st : St) : seqK L b Q (.boom v) st = Q (.boom v) st := rfl
@[simp] theorem wpL_seq (a b : PC) : wpL L (.seq a b) ⟨V, l, g, h⟩ Q = wpL L a ⟨V, l, g, h⟩ (seqK L b Q) := by
 simp only [wpL, evL_seq]
 rcases evL L a ⟨V, l, g, h⟩ with _ | ⟨e, st⟩
 ·rfl
 ·cases e <;> rfl
def blockK (id : Nat) (Q : PExit → St → Prop) : PExit → St → Prop
 | .exit i, st => if i = id then Q .normal st else Q (.exit i) st
 | .after _ _ _, _ => False
 | e, st => Q e st
@[simp] theorem blockK_boom (id : Nat) (v : PV) (st : St) : blockK id Q (.boom v) st = Q (.boom v) st := rfl
@[simp] theorem blockK_normal (id : Nat) (st : St) : blockK id Q .normal st = Q .normal st := rfl
@[simp] theorem blockK_ret (id : Nat) (st : St) : blockK id Q .ret st = Q .ret st := rfl
@[simp] theorem blockK_exit (id i : Nat) (st : St) : blockK id Q (.exit i) st = if i = id then Q .normal st else Q (.exit i) st := rfl
@[simp] theorem wpL_block (id : Nat) (c : PC) : wpL L (.block id c) ⟨V, l, g, h⟩ Q = wpL L c ⟨V, l, g, h⟩ (blockK id Q) := by
 simp only [wpL, evL_block]
 rcases evL L c ⟨V, l, g, h⟩ with _ | ⟨e, st⟩
 ·rfl
 ·cases e <;> try rfl
  rename_i i
  simp only [blockK]
  by_cases hi : i = id <;> simp [hi]
/-- A round of a loop. -/
def loopK (L : Nat → Option PFunc) (c : PC) (Q : PExit → St → Prop) : PExit → St → Prop := seqK L (.loop c) Q
@[simp] theorem loopK_normal (c : PC) (st : St) : loopK L c Q .normal st = wpL L (.loop c) st Q := rfl
@[simp] theorem loopK_exit (c : PC) (i : Nat) (st : St) : loopK L c Q (.exit i) st = Q (.exit i) st := rfl
@[simp] theorem loopK_ret (c : PC) (st : St) : loopK L c Q .ret st = Q .ret st := rfl
@[simp] theorem loopK_boom (c : PC) (v : PV) (st : St) : loopK L c Q (.boom v) st = Q (.boom v) st := rfl
theorem wpL_loop (c : PC) (st : St) : wpL L (.loop c) st Q = wpL L c st (loopK L c Q) := by
 unfold wpL
 rw [evL_loop]
 rcases evL L c st with _ | ⟨e, st'⟩
 ·rfl
 ·cases e <;> rfl
/-- What follows operations that may panic. -/
def thenO (r : Option (Option PV × St)) (Q : PExit → St → Prop) : Prop :=
 match r with
 | some (none, st) => Q .normal (closed st)
 | some (some v, st) => Q (.boom v) (closed st)
 | none => False
@[simp] theorem thenO_val : thenO (some (none, ⟨V, l, g, h⟩)) Q = Q .normal ⟨V, [], g, h⟩ := rfl
@[simp] theorem thenO_boom (v : PV) : thenO (some (some v, ⟨V, l, g, h⟩)) Q = Q (.boom v) ⟨V, [], g, h⟩ := rfl
@[simp] theorem thenO_none : thenO none Q = False := rfl
@[simp] theorem wpL_bregion (ops : List PO) : wpL L (.bregion ops) ⟨V, l, g, h⟩ Q = thenO (brun (callL L) (outL L) 0 ops ⟨V, List.replicate ops.length .dead, g, h⟩) Q := by
 simp only [wpL, evL_bregion_mk]
 rcases brun (callL L) (outL L) 0 ops ⟨V, List.replicate ops.length .dead, g, h⟩ with _ | ⟨_ | v, st⟩ <;> rfl
def thenOB (L : Nat → Option PFunc) (r : Option (Option PV × St)) (x : PX) (a b : PC) (Q : PExit → St → Prop) : Prop :=
 match r with
 | some (none, st) => (match rd st x with
   | some (.bool t) => if t = true then wpL L a (closed st) Q else wpL L b (closed st) Q
   | _ => False)
 | some (some v, st) => Q (.boom v) (closed st)
 | none => False
@[simp] theorem thenOB_val (x : PX) (a b : PC) : thenOB L (some (none, ⟨V, l, g, h⟩)) x a b Q = match rd ⟨V, l, g, h⟩ x with
  | some (.bool t) => if t = true then wpL L a ⟨V, [], g, h⟩ Q else wpL L b ⟨V, [], g, h⟩ Q
  | _ => False := rfl
@[simp] theorem thenOB_boom (v : PV) (x : PX) (a b : PC) : thenOB L (some (some v, ⟨V, l, g, h⟩)) x a b Q = Q (.boom v) ⟨V, [], g, h⟩ := rfl
@[simp] theorem thenOB_none (x : PX) (a b : PC) : thenOB L none x a b Q = False := rfl
@[simp] theorem wpL_bbranch (ops : List PO) (x : PX) (a b : PC) : wpL L (.bbranch ops x a b) ⟨V, l, g, h⟩ Q = thenOB L (brun (callL L) (outL L) 0 ops ⟨V, List.replicate ops.length .dead, g, h⟩) x a b Q := by
 simp only [wpL, evL_bbranch_mk, thenOB]
 rcases brun (callL L) (outL L) 0 ops ⟨V, List.replicate ops.length .dead, g, h⟩ with _ | ⟨_ | v, st⟩
 ·rfl
 ·simp only
  cases rd st x with
  | none => rfl
  | some v =>
    cases v <;> try rfl
    rename_i t; cases t <;> rfl
 ·rfl
/-- What follows a panic. -/
def thenR' (r : Option St) (t : Nat) (x : PX) (Q : PExit → St → Prop) : Prop :=
 match r with
 | some st => (match rd st x with
   | some p => Q (.boom (.iface t p)) (closed st)
   | none => False)
 | none => False
@[simp] theorem thenR'_some (t : Nat) (x : PX) : thenR' (some ⟨V, l, g, h⟩) t x Q = match rd ⟨V, l, g, h⟩ x with
  | some p => Q (.boom (.iface t p)) ⟨V, [], g, h⟩
  | none => False := rfl
@[simp] theorem thenR'_none (t : Nat) (x : PX) : thenR' none t x Q = False := rfl
@[simp] theorem wpL_raise (ops : List PO) (t : Nat) (x : PX) : wpL L (.raise ops t x) ⟨V, l, g, h⟩ Q = thenR' (execOps (callL L) ops ⟨V, l, g, h⟩) t x Q := by
 simp only [wpL, evL_raise, thenR']
 cases execOps (callL L) ops ⟨V, l, g, h⟩ with
 | none => rfl
 | some st => simp only; cases rd st x <;> rfl
/-- To a function's end, behind a defer statement. -/
def guardK (kd : Nat) (cs : List PV) (Q : PExit → St → Prop) : PExit → St → Prop
 | .normal, st => Q (.after kd cs none) st
 | .ret, st => Q (.after kd cs none) st
 | .boom v, st => Q (.after kd cs (some v)) st
 | _, _ => False
@[simp] theorem guardK_normal (kd : Nat) (cs : List PV) (st : St) : guardK kd cs Q .normal st = Q (.after kd cs none) st := rfl
@[simp] theorem guardK_ret (kd : Nat) (cs : List PV) (st : St) : guardK kd cs Q .ret st = Q (.after kd cs none) st := rfl
@[simp] theorem guardK_boom (kd : Nat) (cs : List PV) (v : PV) (st : St) : guardK kd cs Q (.boom v) st = Q (.after kd cs (some v)) st := rfl
@[simp] theorem guardK_exit (kd : Nat) (cs : List PV) (i : Nat) (st : St) : guardK kd cs Q (.exit i) st = False := rfl
theorem wpL_guarded (kd : Nat) (caps : List PX) (c : PC) {cs : List PV} (hn : c.NR = true) (hr : rdAll ⟨V, l, g, h⟩ caps = some cs) : wpL L (.guarded kd caps c) ⟨V, l, g, h⟩ Q = wpL L c ⟨V, l, g, h⟩ (guardK kd cs Q) := by
 simp only [wpL, evL_guarded hn, hr]
 rcases evL L c ⟨V, l, g, h⟩ with _ | ⟨e, st⟩
 ·rfl
 ·cases e <;> rfl
/-- The end of a call that may panic. -/
def endO (L : Nat → Option PFunc) (f : PFunc) (r : Out × List PObj) : PExit → St → Prop
 | .normal, st => ∃ v, resultV st f.results = some v ∧ r = (.val v, shutRes st.vars f.results st.heap)
 | .ret, st => ∃ v, resultV st f.results = some v ∧ r = (.val v, shutRes st.vars f.results st.heap)
 | .boom v, st => r = (.boom v, st.heap)
 | .after kd cs v, st => f.code.NR = true ∧ ∃ h1 x, dfrOf L kd (v.getD .nilIface :: cs) st.heap = some h1 ∧ resultV { st with heap := h1 } f.results = some x ∧ r = (.val x, shutRes st.vars f.results h1)
 | .exit _, _ => False
@[simp] theorem endO_normal (f : PFunc) (r : Out × List PObj) : endO L f r .normal ⟨V, l, g, h⟩ = ∃ v, resultV ⟨V, l, g, h⟩ f.results = some v ∧ r = (.val v, shutRes V f.results h) := rfl
@[simp] theorem endO_ret (f : PFunc) (r : Out × List PObj) : endO L f r .ret ⟨V, l, g, h⟩ = ∃ v, resultV ⟨V, l, g, h⟩ f.results = some v ∧ r = (.val v, shutRes V f.results h) := rfl
@[simp] theorem endO_boom (f : PFunc) (r : Out × List PObj) (v : PV) : endO L f r (.boom v) ⟨V, l, g, h⟩ = (r = (.boom v, h)) := rfl
@[simp] theorem endO_after (f : PFunc) (r : Out × List PObj) (kd : Nat) (cs : List PV) (v : Option PV) : endO L f r (.after kd cs v) ⟨V, l, g, h⟩ = (f.code.NR = true ∧ ∃ h1 x, dfrOf L kd (v.getD .nilIface :: cs) h = some h1 ∧ resultV ⟨V, l, g, h1⟩ f.results = some x ∧ r = (.val x, shutRes V f.results h1)) := rfl
theorem runOut_wp {f : PFunc} {args : List PV} {hp : List PObj} {r : Out × List PObj} (hr : f.code.isRound = false)
  (hw : wpL L f.code ⟨args.map dem ++ List.replicate (f.nv - f.params) .dead, [], 0, hp⟩ (endO L f r)) : runOut (evL L) (dfrOf L) f args hp = some r := by
 rw [wpL_iff] at hw
 obtain ⟨e, st, h1, h2⟩ := hw
 unfold runOut
 split
 ·rename_i h3; rw [h3] at hr; simp [PC.isRound] at hr
 ·rw [h1]
  cases e with
  | normal => obtain ⟨v, h3, rfl⟩ := h2; simp only [h3]; rfl
  | ret => obtain ⟨v, h3, rfl⟩ := h2; simp only [h3]; rfl
  | exit i => exact h2.elim
  | boom v => simp only [endO] at h2; subst h2; rfl
  | after kd cs v =>
    obtain ⟨h3, h4, x, h5, h6, rfl⟩ := h2
    simp only [h3, Bool.true_eq_false, if_false, h5, Option.bind_some, h6, Option.map_some]
/-- A call that may panic. -/
theorem outL_wp {k : Nat} {f : PFunc} {args : List PV} {hp : List PObj} {r : Out × List PObj} (hf : L k = some f) (hl : args.length = f.params)
  (hw : wpL L f.code ⟨args.map dem ++ List.replicate (f.nv - f.params) .dead, [], 0, hp⟩ (endO L f r)) (hs : f.split = false := by rfl) (hpr : f.prim = none := by rfl) (hr : f.code.isRound = false := by rfl) : outL L k args hp = some r :=
 outL_of hf hl (runOut_wp hr hw) hs hpr
/-- A call in which a panic is recovered, if there is one. -/
theorem callL_wpO {k : Nat} {f : PFunc} {args : List PV} {hp : List PObj} {r : PV × List PObj} (hf : L k = some f) (hl : args.length = f.params)
  (hw : wpL L f.code ⟨args.map dem ++ List.replicate (f.nv - f.params) .dead, [], 0, hp⟩ (endO L f (.val r.1, r.2))) (hs : f.split = false := by rfl) (hpr : f.prim = none := by rfl) (hr : f.code.isRound = false := by rfl) : callL L k args hp = some r :=
 callL_of hf hl (runOut_wp hr hw) hs hpr hr
/-- The end of a function. -/
def endK (rs : List PRes) (r : PV × List PObj) (e : PExit) (st : St) : Prop := (e = .normal ∨ e = .ret) ∧ resultV st rs = some r.1 ∧ shutRes st.vars rs st.heap = r.2
@[simp] theorem endK_normal (rs : List PRes) (r : PV × List PObj) : endK rs r .normal ⟨V, l, g, h⟩ = (resultV ⟨V, l, g, h⟩ rs = some r.1 ∧ shutRes V rs h = r.2) := by simp [endK]
@[simp] theorem endK_ret (rs : List PRes) (r : PV × List PObj) : endK rs r .ret ⟨V, l, g, h⟩ = (resultV ⟨V, l, g, h⟩ rs = some r.1 ∧ shutRes V rs h = r.2) := by simp [endK]
theorem callL_wp {k : Nat} {f : PFunc} {args : List PV} {hp : List PObj} {r : PV × List PObj} (hf : L k = some f) (hl : args.length = f.params)
  (hw : wpL L f.code ⟨args.map dem ++ List.replicate (f.nv - f.params) .dead, [], 0, hp⟩ (endK f.results r)) (hs : f.split = false := by rfl) (hpr : f.prim = none := by rfl) (hr : f.code.isRound = false := by rfl) : callL L k args hp = some r := by
 refine callL_run hf hl ?_ hs hpr hr
 rw [wpL_iff] at hw
 obtain ⟨e, st, h1, h2, h3, h4⟩ := hw
 rw [h1]
 rcases h2 with rfl | rfl <;> simp only [ending, h3, h4]
/-- A call that hands over room. -/
theorem callL_wpX {k : Nat} {f : PFunc} {own : Option Nat} {args : List PV} {hp : List PObj} {r : PV × List PObj} (hf : L k = some f) (hl : args.length = f.params)
  (hw : wpL L f.code ⟨entry own args ++ List.replicate (f.nv - f.params) .dead, [], 0, hp⟩ (endK f.results r)) (hs : f.split = false := by rfl) (hpr : f.prim = none := by rfl) (hr : f.code.isRound = false := by rfl) (hp1 : f.params < 1000 := by decide) : callL L k (ownArgs own args) hp = some r := by
 refine callL_own hf hl ?_ hs hpr hp1
 rw [wpL_iff] at hw
 obtain ⟨e, st, h1, h2, h3, h4⟩ := hw
 unfold runOwn
 rw [if_neg (by rw [hr]; simp), h1]
 rcases h2 with rfl | rfl <;> simp only [h3, h4, Option.map_some]
/-- What is given is of a kind. -/
def endP (rs : List PRes) (P : PV × List PObj → Prop) (e : PExit) (st : St) : Prop := (e = .normal ∨ e = .ret) ∧ ∃ v, resultV st rs = some v ∧ P (v, shutRes st.vars rs st.heap)
theorem callL_wpP {k : Nat} {f : PFunc} {args : List PV} {hp : List PObj} {P : PV × List PObj → Prop} (hf : L k = some f) (hl : args.length = f.params)
  (hw : wpL L f.code ⟨args.map dem ++ List.replicate (f.nv - f.params) .dead, [], 0, hp⟩ (endP f.results P)) (hs : f.split = false := by rfl) (hpr : f.prim = none := by rfl) (hr : f.code.isRound = false := by rfl) : ∃ r, callL L k args hp = some r ∧ P r := by
 rw [wpL_iff] at hw
 obtain ⟨e, st, h1, h2, v, h3, h4⟩ := hw
 refine ⟨(v, shutRes st.vars f.results st.heap), callL_run hf hl ?_ hs hpr hr, h4⟩
 rw [h1]
 rcases h2 with rfl | rfl <;> simp only [ending, h3]
end
end PI
namespace PI
section
variable {L : Nat → Option PFunc} {Q : PExit → St → Prop}
/-- Some variables anew. -/
def upd (V : List PV) : List (Nat × PV) → List PV
 | [] => V
 | (k, v) :: r => upd (V.set k v) r
@[simp] theorem upd_nil (V : List PV) : upd V [] = V := rfl
@[simp] theorem upd_cons (V : List PV) (k : Nat) (v : PV) (r : List (Nat × PV)) : upd V ((k, v) :: r) = upd (V.set k v) r := rfl
/-- A loop that counts: as long as all goes well, round after round; or out at the first that doesn't. -/
theorem loop_all {γ : Type} {c : PC} (n : Nat) (ok : Nat → Bool) (S : Nat → γ → St)
  (step : ∀ i, i < n → ok i = true → ∀ x, (∀ y, wpL L (.loop c) (S (i + 1) y) Q) → wpL L c (S i x) (loopK L c Q))
  (fail : ∀ i, i < n → ok i = false → (∀ k, k < i → ok k = true) → ∀ x, wpL L c (S i x) (loopK L c Q))
  (last : (∀ k, k < n → ok k = true) → ∀ x, wpL L c (S n x) (loopK L c Q)) (x : γ) : wpL L (.loop c) (S 0 x) Q := by
 have key : ∀ (d i : Nat), i + d = n → (∀ k, k < i → ok k = true) → ∀ x, wpL L (.loop c) (S i x) Q := by
  intro d
  induction d with
  | zero =>
    intro i hi hk x
    rw [wpL_loop]
    have : i = n := by omega
    subst this
    exact last hk x
  | succ d ih =>
    intro i hi hk x
    rw [wpL_loop]
    cases ho : ok i with
    | true =>
      refine step i (by omega) ho x (ih (i + 1) (by omega) ?_)
      intro k hk'
      by_cases e : k = i
      ·rw [e]; exact ho
      ·exact hk k (by omega)
    | false => exact fail i (by omega) ho hk x
 exact key n 0 (by omega) (fun k h => absurd h (Nat.not_lt_zero k)) x
/-- The same; the state is said by what parts from the one at the loop's begin. -/
theorem loop_upd {γ : Type} {c : PC} {V : List PV} {g : Nat} {h : List PObj} (n : Nat) (ok : Nat → Bool) (M : Nat → γ → List (Nat × PV)) (H : Nat → γ → List PObj) (x0 : γ)
  (step : ∀ i, i < n → ok i = true → ∀ x, (∀ y, wpL L (.loop c) ⟨upd V (M (i + 1) y), [], g, H (i + 1) y⟩ Q) → wpL L c ⟨upd V (M i x), [], g, H i x⟩ (loopK L c Q))
  (fail : ∀ i, i < n → ok i = false → (∀ k, k < i → ok k = true) → ∀ x, wpL L c ⟨upd V (M i x), [], g, H i x⟩ (loopK L c Q))
  (last : (∀ k, k < n → ok k = true) → ∀ x, wpL L c ⟨upd V (M n x), [], g, H n x⟩ (loopK L c Q)) (hV : upd V (M 0 x0) = V) (hH : H 0 x0 = h) : wpL L (.loop c) ⟨V, [], g, h⟩ Q := by
 have := loop_all n ok (fun i x => ⟨upd V (M i x), [], g, H i x⟩) step fail last x0
 rw [hV, hH] at this
 exact this
/-- The same, where boxes are made in a round. -/
theorem loop_updG {γ : Type} {c : PC} {V : List PV} {g : Nat} {h : List PObj} (n : Nat) (ok : Nat → Bool) (M : Nat → γ → List (Nat × PV)) (G : Nat → γ → Nat) (H : Nat → γ → List PObj) (x0 : γ)
  (step : ∀ i, i < n → ok i = true → ∀ x, (∀ y, wpL L (.loop c) ⟨upd V (M (i + 1) y), [], G (i + 1) y, H (i + 1) y⟩ Q) → wpL L c ⟨upd V (M i x), [], G i x, H i x⟩ (loopK L c Q))
  (fail : ∀ i, i < n → ok i = false → (∀ k, k < i → ok k = true) → ∀ x, wpL L c ⟨upd V (M i x), [], G i x, H i x⟩ (loopK L c Q))
  (last : (∀ k, k < n → ok k = true) → ∀ x, wpL L c ⟨upd V (M n x), [], G n x, H n x⟩ (loopK L c Q)) (hV : upd V (M 0 x0) = V) (hG : G 0 x0 = g) (hH : H 0 x0 = h) : wpL L (.loop c) ⟨V, [], g, h⟩ Q := by
 have := loop_all n ok (fun i x => ⟨upd V (M i x), [], G i x, H i x⟩) step fail last x0
 rw [hV, hG, hH] at this
 exact this
/-- A loop that goes through all its rounds. -/
theorem loop_go {γ : Type} {c : PC} {V : List PV} {g : Nat} {h : List PObj} (n : Nat) (M : Nat → γ → List (Nat × PV)) (H : Nat → γ → List PObj) (x0 : γ)
  (step : ∀ i, i < n → ∀ x, (∀ y, wpL L (.loop c) ⟨upd V (M (i + 1) y), [], g, H (i + 1) y⟩ Q) → wpL L c ⟨upd V (M i x), [], g, H i x⟩ (loopK L c Q))
  (last : ∀ x, wpL L c ⟨upd V (M n x), [], g, H n x⟩ (loopK L c Q)) (hV : upd V (M 0 x0) = V) (hH : H 0 x0 = h) : wpL L (.loop c) ⟨V, [], g, h⟩ Q :=
 loop_upd n (fun _ => true) M H x0 (fun i hi _ => step i hi) (fun _ _ h => by simp at h) (fun _ => last) hV hH
theorem loop_fold {γ : Type} {c : PC} (n : Nat) (S : Nat → γ → St)
  (step : ∀ i, i < n → ∀ x, (∀ y, wpL L (.loop c) (S (i + 1) y) Q) → wpL L c (S i x) (loopK L c Q))
  (last : ∀ x, wpL L c (S n x) (loopK L c Q)) (x : γ) : wpL L (.loop c) (S 0 x) Q :=
 loop_all n (fun _ => true) S (fun i hi _ => step i hi) (fun _ _ h => by simp at h) (fun _ => last) x
end
end PI
