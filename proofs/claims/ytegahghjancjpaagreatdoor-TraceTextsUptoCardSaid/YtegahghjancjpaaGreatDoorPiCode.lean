/-
  The pure interpreter is right: code, functions.
-/
import Derived.Test.YtegahghjancjpaaGreatDoorPiOrd2
import Derived.BigRegion
set_option linter.unusedSimpArgs false
set_option linter.unusedVariables false
namespace PI
open Go Go.RowKit

def dstsOk (nt : Nat) (ops : List Oper) : Bool := ops.all fun o => match o.dst with | some t => decide (t < nt) | none => true

/-- A region. -/
def compR (E : Env) (nt : Nat) (vs : List Tmp) (ops : Array Oper) (draw : Bool) : Option (List PO) :=
  if onceIn vs ops.toList && dstsOk nt ops.toList then
    (cOpers E vs ops.toList ops.toList).bind fun pos => if draw && !orderOk ops pos then none else some pos
  else none

inductive Cmp (E : Env) (nt : Nat) (vs : List Tmp) : Code → PC → Prop where
  | skip : Cmp E nt vs .skip .skip
  | region (id : Nat) (ops : Array Oper) (d : Bool) (pos : List PO) (h : compR E nt vs ops d = some pos) : Cmp E nt vs (.region id ops d) (.region pos)
  | branch (id : Nat) (ops : Array Oper) (d : Bool) (pos : List PO) (c : Operand) (px : PX) (x y : Code) (px1 px2 : PC) (h : compR E nt vs ops d = some pos) (hc : cx E vs ops.toList c = some px) (hx : Cmp E nt vs x px1) (hy : Cmp E nt vs y px2) :
      Cmp E nt vs (.seq (.region id ops d) (.cond c x y)) (.branch pos px px1 px2)
  | branchSeq (id : Nat) (ops : Array Oper) (d : Bool) (pos : List PO) (c : Operand) (px : PX) (x y r : Code) (px1 px2 pr : PC) (h : compR E nt vs ops d = some pos) (hc : cx E vs ops.toList c = some px) (hx : Cmp E nt vs x px1) (hy : Cmp E nt vs y px2) (hr : Cmp E nt vs r pr) :
      Cmp E nt vs (.seq (.region id ops d) (.seq (.cond c x y) r)) (.seq (.branch pos px px1 px2) pr)
  | seq (x y : Code) (p q : PC) (hx : Cmp E nt vs x p) (hy : Cmp E nt vs y q) : Cmp E nt vs (.seq x y) (.seq p q)
  | cond (c : Operand) (px : PX) (x y : Code) (p q : PC) (hc : cx E vs [] c = some px) (hx : Cmp E nt vs x p) (hy : Cmp E nt vs y q) : Cmp E nt vs (.cond c x y) (.branch [] px p q)
  | block (id : Nat) (x : Code) (p : PC) (hx : Cmp E nt vs x p) : Cmp E nt vs (.block id x) (.block id p)
  | loop (x : Code) (p : PC) (hx : Cmp E nt vs x p) : Cmp E nt vs (.loop x) (.loop p)
  | stuck (x : Code) : Cmp E nt vs x stuckC
  | exit (id : Nat) : Cmp E nt vs (.exit id) (.exit id)
  | ret : Cmp E nt vs .ret .ret

def compC (E : Env) (nt : Nat) (vs : List Tmp) : Code → PC
  | .skip => .skip
  | .region _ ops d => match compR E nt vs ops d with
    | some pos => .region pos
    | none => stuckC
  | .seq (.region _ ops d) (.cond c x y) => match compR E nt vs ops d, cx E vs ops.toList c with
    | some pos, some px => .branch pos px (compC E nt vs x) (compC E nt vs y)
    | _, _ => stuckC
  | .seq (.region _ ops d) (.seq (.cond c x y) r) => match compR E nt vs ops d, cx E vs ops.toList c with
    | some pos, some px => .seq (.branch pos px (compC E nt vs x) (compC E nt vs y)) (compC E nt vs r)
    | _, _ => stuckC
  | .seq x y => .seq (compC E nt vs x) (compC E nt vs y)
  | .cond c x y => match cx E vs [] c with
    | some px => .branch [] px (compC E nt vs x) (compC E nt vs y)
    | none => stuckC
  | .block id x => .block id (compC E nt vs x)
  | .loop x => .loop (compC E nt vs x)
  | .exit id => .exit id
  | .ret => .ret
  | _ => stuckC

theorem compC_cmp {E : Env} {nt : Nat} {vs : List Tmp} : ∀ {c : Code}, Cmp E nt vs c (compC E nt vs c) := by
  intro c
  fun_induction compC E nt vs c with
  | case1 => exact .skip
  | case2 id ops d pos h => exact .region id ops d pos h
  | case3 => exact .stuck _
  | case4 id ops d c x y pos px h1 h2 ihx ihy => exact .branch id ops d pos c px x y _ _ h2 h1 ihx ihy
  | case5 => exact .stuck _
  | case6 id ops d c x y r pos px h1 h2 ihx ihy ihr => exact .branchSeq id ops d pos c px x y r _ _ _ h2 h1 ihx ihy ihr
  | case7 => exact .stuck _
  | case8 x y _ _ ihx ihy => exact .seq x y _ _ ihx ihy
  | case9 c x y px h ihx ihy => exact .cond c px x y _ _ h ihx ihy
  | case10 => exact .stuck _
  | case11 id x ih => exact .block id x _ ih
  | case12 x ih => exact .loop x _ ih
  | case13 id => exact .exit id
  | case14 => exact .ret
  | case15 => exact .stuck _

def PExit.to : PExit → Exit
  | .normal => .normal
  | .exit id => .exit id
  | .ret => .ret

/-- Between two regions. -/
structure BI (N : Nm) (w : World) (G : GS) (st : St) (a : Act) (vs : List Tmp) (nt : Nat) : Prop where
  fi : FI N w G st a vs (fun _ => none)
  size : nt ≤ a.tmps.size

theorem drew_ext (w : World) (G : GS) : Ext w G w.drew G :=
  ⟨rfl, rfl, rfl, Nat.le_refl _, fun _ _ _ => rfl, fun _ _ h => ⟨h, rfl⟩, fun _ _ h => .inl h, fun _ h => .inr h, fun _ _ h => h, ShapeLe.refl w⟩

theorem drew_keep (w : World) (G : GS) : Keep (fun _ => False) w G w.drew G := ⟨fun _ _ h _ => ⟨h, rfl, fun _ h => h⟩, fun _ _ h => h⟩

section
variable {E : Env} {N : Nm} {vs : List Tmp} {P : Program} {nt : Nat} {Q : Exit → Act → World → Prop}

theorem FI.begin {w : World} {G : GS} {st : St} {a : Act} (h : BI N w G st a vs nt) (lm : Nat → Option Tmp) (hl : ∀ j t, lm j = some t → t < nt) (n : Nat) : FI N w G (begun n st) a vs lm := by
  refine ⟨h.fi.len, h.fi.var, ?_, h.fi.tv, fun j t hj => Nat.lt_of_lt_of_le (hl j t hj) h.size, h.fi.defers, h.fi.gen, h.fi.owlt, h.fi.fixlt, h.fi.heap, h.fi.hdom⟩
  intro j t u _ hu
  simp only [begun, List.getElem?_replicate] at hu
  split at hu
  · simp at hu; subst hu; trivial
  · simp at hu

theorem FI.finish {w : World} {G : GS} {st : St} {a : Act} {lm : Nat → Option Tmp} (h : FI N w G st a vs lm) (hs : nt ≤ a.tmps.size) : BI N w G (closed st) a vs nt :=
  ⟨⟨h.len, h.var, (by intro j t u hj; simp at hj), h.tv, (by intro j t hj; simp at hj), h.defers, h.gen, h.owlt, h.fixlt, h.heap, h.hdom⟩, hs⟩

theorem lmap_lt {ops : List Oper} (h : dstsOk nt ops = true) : ∀ j t, lmap vs ops j = some t → t < nt := by
  intro j t hj
  unfold lmap at hj
  split at hj
  · rename_i o ho
    split at hj
    · rename_i t' ht'
      split at hj
      · simp at hj
      · simp at hj; subst hj
        have := List.all_eq_true.1 h o (List.mem_of_getElem? ho)
        simpa [ht'] using this
    · simp at hj
  · simp at hj

/-- A region, and what follows it while its places are at hand. -/
theorem region_sound {L : Nat → Option PFunc} (hF : FnsOK N P L) (hE : EnvOk E N) (hP : E.P = P) (hmix : P.follows .mixedOrders = true) (hnd : vs.Nodup) {cf : CallF} (hcf : CallOK N P cf) (hcL : ∀ k args h r, cf k args h = some r → ∃ f, L k = some f)
    {id : Nat} {ops : Array Oper} {d : Bool} {pos : List PO} (hc : compR E nt vs ops d = some pos) {w : World} {G : GS} {st st' : St} {a : Act} (hs : execOps cf pos st = some st') (hb : BI N w G st a vs nt)
    (hk : ∀ a' w' G', FI N w' G' st' a' vs (lmap vs ops.toList) → Ext w G w' G' → nt ≤ a'.tmps.size → Q .normal a' w') : (Code.region id ops d).wp P Q a w := by
  unfold compR at hc
  split at hc
  · rename_i hcond
    simp only [Bool.and_eq_true] at hcond
    simp only [Option.bind_eq_some_iff] at hc
    obtain ⟨pos', hpos, hc⟩ := hc
    split at hc
    · simp at hc
    · rename_i hord
      simp at hc; subst hc
      have nm := names_ok hnd hcond.1
      have hlen : ops.size = pos'.length := by have := (cOpers_get hpos).1; simpa using this
      have hfi := FI.begin hb (lmap vs ops.toList) (lmap_lt hcond.2) pos'.length
      have hx : execL cf pos' (List.range' 0 pos'.length) (begun pos'.length st) = some st' := by
        rw [← execFrom_L (all := pos') (by simp)]; exact hs
      have hk' : Next1 N w G a st' vs ops.toList (Q .normal) := fun a' w' G' h1 h2 h3 => hk a' w' G' h1 h2 (by rw [h3]; exact hb.size)
      cases d with
      | false =>
        refine wp_region ?_
        have : List.range ops.size = List.range' 0 pos'.length := by rw [hlen, List.range_eq_range']
        rw [this]
        exact opsL_sound hF hE hP nm hcf hcL hpos hx hfi hk'
      | true =>
        have hord' : orderOk ops pos' = true := by simpa using hord
        refine wp_region_any hmix ?_
        have hrem : remOf ops.size (Array.replicate ops.size false) = List.range' 0 pos'.length := by
          rw [← List.range_eq_range', ← hlen]
          unfold remOf
          rw [List.filter_eq_self]
          intro i hi
          have : i < ops.size := by simpa using hi
          simp [Array.getD_eq_getD_getElem?, this]
        have hfd : FI N w.drew G (begun pos'.length st) a vs (lmap vs ops.toList) := hfi.ext (drew_ext w G) (drew_keep w G) hfi.gen hfi.owlt hfi.fixlt
        refine any_sound hF hE hP nm hcf hcL hpos hord' ops.size (by simp) (by rw [hrem]; simp [hlen]) ?_ (by rw [hrem]; exact hx) hfd (hk'.trans (drew_ext w G) rfl)
        intro k o ho hkl
        have : k < ops.size := (Array.getElem?_eq_some_iff.1 ho).1
        simp [Array.getD_eq_getD_getElem?, this] at hkl
  · simp at hc

theorem compR_nil : compR E nt vs #[] false = some [] := by simp [compR, onceIn, dstsOk, cOpers]

/-- Code. -/
theorem code_sound {L : Nat → Option PFunc} (hF : FnsOK N P L) (hE : EnvOk E N) (hP : E.P = P) (hmix : P.follows .mixedOrders = true) (hnd : vs.Nodup) (hcL : ∀ n k args h r, callWith (exec L n) L k args h = some r → ∃ f, L k = some f) :
    ∀ (n : Nat), (∀ m, m < n → CallOK N P (callWith (exec L m) L)) → ∀ {c : Code} {p : PC} {x : PExit} {st st' : St} {w : World} {G : GS} {a : Act} {Q : Exit → Act → World → Prop}, Cmp E nt vs c p → exec L n p st = some (x, st') → BI N w G st a vs nt →
      (∀ a' w' G', BI N w' G' st' a' vs nt → Ext w G w' G' → Q x.to a' w') → c.wp P Q a w
  | 0, _, c, p, x, st, st', w, G, a, Q, _, h, _, _ => by simp [exec] at h
  | n + 1, hcall, c, p, x, st, st', w, G, a, Q, hc, h, hb, hk => by
    have ih := @code_sound L hF hE hP hmix hnd hcL n (fun m hm => hcall m (by omega))
    have hcf := hcall n (by omega)
    -- a region, then a test
    have branch : ∀ {m : Nat}, m ≤ n → ∀ {id : Nat} {ops : Array Oper} {d : Bool} {pos : List PO} {cc : Operand} {px : PX} {x1 y1 : Code} {p1 p2 : PC} {Q : Exit → Act → World → Prop} {x : PExit} {st' : St}, compR E nt vs ops d = some pos → cx E vs ops.toList cc = some px → Cmp E nt vs x1 p1 → Cmp E nt vs y1 p2 →
        exec L (m + 1) (.branch pos px p1 p2) st = some (x, st') → (∀ a' w' G', BI N w' G' st' a' vs nt → Ext w G w' G' → Q x.to a' w') → (Code.region id ops d).wp P (Exit.then ((Code.cond cc x1 y1).wp P Q) Q) a w := by
      intro m hm id ops d pos cc px x1 y1 p1 p2 Q x st' hR hcc hx hy h hk
      have ih := @code_sound L hF hE hP hmix hnd hcL m (fun m' hm' => hcall m' (by omega))
      have hcf := hcall m (by omega)
      simp only [exec] at h
      split at h
      · rename_i st1 hs1
        split at h
        · rename_i t ht
          refine region_sound hF hE hP hmix hnd hcf (hcL m) hR hs1 hb ?_
          intro a' w' G' hf he hsz
          have hev := (rd_sound hE hcc hf ht).1
          have hev' : a'.eval cc = .bool t := by generalize a'.eval cc = z at hev; cases hev; rfl
          have hb' := FI.finish (nt := nt) hf hsz
          refine wp_cond hev' ?_
          cases t with
          | true => exact ih hx (by simpa using h) hb' (fun a2 w2 G2 h1 h2 => hk a2 w2 G2 h1 (he.trans h2))
          | false => exact ih hy (by simpa using h) hb' (fun a2 w2 G2 h1 h2 => hk a2 w2 G2 h1 (he.trans h2))
        · simp at h
      · simp at h
    cases hc with
    | stuck => simp [stuckC, exec, execOps, execFrom, rd, raw, cp] at h
    | skip =>
      simp only [exec, Option.some.injEq, Prod.mk.injEq] at h
      obtain ⟨rfl, rfl⟩ := h
      exact wp_skip (hk _ _ G hb (Ext.refl _ _))
    | exit id =>
      simp only [exec, Option.some.injEq, Prod.mk.injEq] at h
      obtain ⟨rfl, rfl⟩ := h
      exact wp_exit (hk _ _ G hb (Ext.refl _ _))
    | ret =>
      simp only [exec, Option.some.injEq, Prod.mk.injEq] at h
      obtain ⟨rfl, rfl⟩ := h
      exact wp_ret (hk _ _ G hb (Ext.refl _ _))
    | region id ops d pos hR =>
      simp only [exec, Option.map_eq_some_iff, Prod.mk.injEq] at h
      obtain ⟨st1, hs1, rfl, rfl⟩ := h
      exact region_sound hF hE hP hmix hnd hcf (hcL n) hR hs1 hb (fun a' w' G' hf he hsz => hk a' w' G' (FI.finish hf hsz) he)
    | branch id ops d pos cc px x1 y1 p1 p2 hR hcc hx hy =>
      exact wp_seq (branch (Nat.le_refl _) hR hcc hx hy h hk)
    | branchSeq id ops d pos cc px x1 y1 r p1 p2 pr hR hcc hx hy hr =>
      simp only [exec] at h
      refine wp_seq ?_
      have up : ∀ {a : Act} {w : World}, (Code.region id ops d).wp P (Exit.then ((Code.cond cc x1 y1).wp P (Exit.then (r.wp P Q) Q)) (Exit.then (r.wp P Q) Q)) a w → (Code.region id ops d).wp P (Exit.then ((Code.seq (Code.cond cc x1 y1) r).wp P Q) Q) a w := by
        intro a w hw
        refine wp_mono hw ?_
        intro e a' w' hq
        cases e <;> simp only [Exit.then] at hq ⊢
        · exact wp_seq hq
        all_goals exact hq
      split at h
      · rename_i st1 hs1
        cases n with
        | zero => simp [exec] at hs1
        | succ m =>
          exact up (branch (Nat.le_succ m) hR hcc hx hy hs1 (fun a' w' G' hb' he => ih hr h hb' (fun a2 w2 G2 h1 h2 => hk a2 w2 G2 h1 (he.trans h2))))
      · rename_i hne
        cases n with
        | zero => simp [exec] at h
        | succ m =>
          refine up (branch (Nat.le_succ m) hR hcc hx hy h (fun a' w' G' hb' he => ?_))
          have := hk a' w' G' hb' he
          cases x with
          | normal => exact absurd h (fun e => hne _ e)
          | exit id => exact this
          | ret => exact this
    | seq x1 y1 p1 q1 hx hy =>
      simp only [exec] at h
      refine wp_seq ?_
      split at h
      · rename_i st1 hs1
        exact ih hx hs1 hb (fun a' w' G' hb' he => ih hy h hb' (fun a2 w2 G2 h1 h2 => hk a2 w2 G2 h1 (he.trans h2)))
      · rename_i hne
        refine ih hx h hb (fun a' w' G' hb' he => ?_)
        have := hk a' w' G' hb' he
        cases x with
        | normal => exact absurd h (fun e => hne _ e)
        | exit id => exact this
        | ret => exact this
    | cond cc px x1 y1 p1 q1 hcc hx hy =>
      simp only [exec, execOps, execFrom] at h
      split at h
      · rename_i t ht
        have hf := FI.begin (lm := lmap vs []) hb (by intro j t hj; simp [lmap] at hj) 0
        have hev := (rd_sound hE hcc hf ht).1
        have hev' : a.eval cc = .bool t := by generalize a.eval cc = z at hev; cases hev; rfl
        have hb' := FI.finish (nt := nt) hf hb.size
        refine wp_cond hev' ?_
        cases t with
        | true => exact ih hx (by simpa using h) hb' hk
        | false => exact ih hy (by simpa using h) hb' hk
      · simp at h
    | block id x1 p1 hx =>
      simp only [exec] at h
      refine wp_block ?_
      split at h
      · rename_i i st1 hs1
        split at h
        · rename_i hi
          subst hi
          simp only [Option.some.injEq, Prod.mk.injEq] at h
          obtain ⟨rfl, rfl⟩ := h
          refine ih hx hs1 hb (fun a' w' G' hb' he => ?_)
          simp only [PExit.to, Exit.inBlock, if_true]
          exact hk a' w' G' hb' he
        · rename_i hi
          simp only [Option.some.injEq, Prod.mk.injEq] at h
          obtain ⟨rfl, rfl⟩ := h
          refine ih hx hs1 hb (fun a' w' G' hb' he => ?_)
          simp only [PExit.to, Exit.inBlock, if_neg hi]
          exact hk a' w' G' hb' he
      · rename_i hne
        refine ih hx h hb (fun a' w' G' hb' he => ?_)
        have := hk a' w' G' hb' he
        cases x with
        | normal => exact this
        | exit i => exact absurd h (fun e => hne _ _ e)
        | ret => exact this
    | loop x1 p1 hx =>
      refine wp_loop_rounds (n + 1) ?_
      clear branch
      have key : ∀ (m : Nat), m ≤ n + 1 → ∀ {st : St} {w : World} {G : GS} {a : Act}, exec L m (.loop p1) st = some (x, st') → BI N w G st a vs nt → (∀ a' w' G', BI N w' G' st' a' vs nt → Ext w G w' G' → Q x.to a' w') → Code.rounds P x1 Q m a w := by
        intro m
        induction m with
        | zero => intro _ st w G a h; simp [exec] at h
        | succ m ihm =>
          intro hm st w G a h hb hk
          rw [rounds_succ]
          have ih' := @code_sound L hF hE hP hmix hnd hcL m (fun m' hm' => hcall m' (by omega))
          simp only [exec] at h
          split at h
          · rename_i st1 hs1
            exact ih' hx hs1 hb (fun a' w' G' hb' he => ihm (by omega) h hb' (fun a2 w2 G2 h1 h2 => hk a2 w2 G2 h1 (he.trans h2)))
          · rename_i hne
            refine ih' hx h hb (fun a' w' G' hb' he => ?_)
            have := hk a' w' G' hb' he
            cases x with
            | normal => exact absurd h (fun e => hne _ e)
            | exit id => exact this
            | ret => exact this
      exact key (n + 1) (Nat.le_refl _) h hb hk

end
end PI
