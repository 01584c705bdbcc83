/-
  The pure interpreter is right: code.
-/
import Derived.Test.YtaejhojielbbdaaGreatDoorPiObj
import Derived.BigRegion
set_option linter.unusedSimpArgs false
set_option linter.unusedVariables false
namespace PI
open Go Go.RowKit
def dstsOk (nt : Nat) (ops : List Oper) : Bool := ops.all fun o => match o.dst with | some t => decide (t < nt) | none => true
def noDefer (ops : List Oper) : Bool := ops.all fun o => match o.op with | .defer _ => false | _ => true
/-- A region. -/
def compR (E : Env) (nt : Nat) (vs : List Tmp) (ops : Array Oper) (draw : Bool) : Option (List PO) :=
 if onceIn vs ops.toList && dstsOk nt ops.toList && noDefer ops.toList then
  (cOpers E vs ops.toList ops.toList).bind fun pos => if draw && !orderOk ops pos then (if edgesOk ops then some (⟨.n, .anyo (befOf ops) (frOf ops pos (rows ops.toList 0 0)), none⟩ :: pos) else none) else if isAny pos then none else some pos
 else none
/-- A region in which a call may panic. -/
def compB (E : Env) (nt : Nat) (vs : List Tmp) (ops : Array Oper) (draw : Bool) : Option (List PO) :=
 if onceIn vs ops.toList && dstsOk nt ops.toList && noDefer ops.toList then
  (cOpersB E vs ops.toList ops.toList).bind fun pos => if draw && !orderOk ops pos then none else some pos
 else none
/-- A panic with a value of a type: a region's last two operations. -/
def compRaise (E : Env) (nt : Nat) (vs : List Tmp) (ops : Array Oper) : Option (List PO × Nat × PX) :=
 if onceIn vs ops.toList && dstsOk nt ops.toList && noDefer ops.toList then
  match ops.toList.drop (ops.size - 2) with
  | [{ dst := some d, op := .makeInterface T x, guard := none, .. }, { op := .panic (.tmp d'), guard := none, .. }] =>
    match E.P.underlying T with
    | none | some (.interface _) => none
    | some _ => if d = d' ∧ (idxIn d vs 0).isNone ∧ 2 ≤ ops.size then (cOpers E vs ops.toList (ops.toList.take (ops.size - 2))).bind fun pos => (cx E vs ops.toList x).bind fun px => (idxIn T E.pt 0).map fun i => (pos, i + 1, px) else none
  | _ => none
 else none
/-- A defer statement of a closure. -/
def compDefer (E : Env) (nt : Nat) (vs : List Tmp) (ops : Array Oper) : Option (Nat × List PX) :=
 match ops.toList with
 | [{ dst := some d, op := .makeFunc (.func f) first caps, guard := none, .. }, { dst := none, op := .defer { callee := .value (.tmp d'), args, .. }, guard := none, .. }] =>
   if d = d' ∧ (idxIn d vs 0).isNone ∧ d < nt ∧ first.toList = [] ∧ args.toList = [] then (E.inv f).bind fun k => (cxs E vs [] caps.toList).map fun ps => (k, ps) else none
 | _ => none
/-- What stands for the loop, if it is one. -/
def compM (E : Env) (nt : Nat) (vs : List Tmp) (ops0 : Array Oper) (y : Code) : Option PC :=
 match y with
 | .block b (.loop (.seq (.region _ ops1 false) (.seq (.cond (.tmp c) .skip (.exit b')) (.block _ (.seq (.region _ ops2 false) (.region _ ops3 d3)))))) =>
   match ops0.toList.drop (ops0.size - 1), ops1.toList, ops2.toList with
   | [{ dst := some it, op := .range t x, guard := none, .. }], [{ dst := some t1, op := .next (.tmp it1) false, guard := none, .. }, { dst := some t2, op := .extract (.tmp t1') 0, guard := none, .. }], { dst := some t3, op := .entry (.tmp it2), guard := none, .. } :: _ =>
     match E.P.underlying t, idxIn it vs 0 with
     | some (.map _ _), some i =>
       if b' = b ∧ it1 = it ∧ it2 = it ∧ t1' = t1 ∧ t2 = c ∧ t1 ≠ t2 ∧ (idxIn t1 vs 0).isNone ∧ (idxIn t2 vs 0).isNone ∧ (idxIn t3 vs 0).isNone ∧ t1 < nt ∧ t2 < nt ∧ 0 < ops0.size ∧
         (onceIn vs ops0.toList && dstsOk nt ops0.toList && noDefer ops0.toList && onceIn vs ops2.toList && dstsOk nt ops2.toList && noDefer ops2.toList) = true then
        (cOpers E vs ops0.toList ops0.toList).bind fun q0 => (cx E vs ops0.toList x).bind fun px => (cOpers E vs ops2.toList ops2.toList).bind fun q2 => (compR E nt vs ops3 d3).map fun q3 =>
         .mloop (q0.take (ops0.size - 1)) px i (q2.filterMap fun o => match o.dst with | .v i => some i | _ => none) (q2.drop 1) q3
       else none
     | _, _ => none
   | _, _, _ => none
 | _ => none
inductive Cmp (E : Env) (nt : Nat) (vs : List Tmp) : Code → PC → Prop where
 | skip : Cmp E nt vs .skip .skip
 | region (id : Nat) (ops : Array Oper) (d : Bool) (pos : List PO) (h : compR E nt vs ops d = some pos) : Cmp E nt vs (.region id ops d) (.region pos)
 | bregion (id : Nat) (ops : Array Oper) (d : Bool) (pos : List PO) (h : compB E nt vs ops d = some pos) : Cmp E nt vs (.region id ops d) (.bregion pos)
 | raise (id : Nat) (ops : Array Oper) (pos : List PO) (t : Nat) (px : PX) (h : compRaise E nt vs ops = some (pos, t, px)) : Cmp E nt vs (.region id ops false) (.raise pos t px)
 | branch (id : Nat) (ops : Array Oper) (d : Bool) (pos : List PO) (c : Operand) (px : PX) (x y : Code) (px1 px2 : PC) (h : compR E nt vs ops d = some pos) (hc : cx E vs ops.toList c = some px) (hx : Cmp E nt vs x px1) (hy : Cmp E nt vs y px2) :
   Cmp E nt vs (.seq (.region id ops d) (.cond c x y)) (.branch pos px px1 px2)
 | branchSeq (id : Nat) (ops : Array Oper) (d : Bool) (pos : List PO) (c : Operand) (px : PX) (x y r : Code) (px1 px2 pr : PC) (h : compR E nt vs ops d = some pos) (hc : cx E vs ops.toList c = some px) (hx : Cmp E nt vs x px1) (hy : Cmp E nt vs y px2) (hr : Cmp E nt vs r pr) :
   Cmp E nt vs (.seq (.region id ops d) (.seq (.cond c x y) r)) (.seq (.branch pos px px1 px2) pr)
 | bbranch (id : Nat) (ops : Array Oper) (d : Bool) (pos : List PO) (c : Operand) (px : PX) (x y : Code) (px1 px2 : PC) (h : compB E nt vs ops d = some pos) (hc : cx E vs ops.toList c = some px) (hx : Cmp E nt vs x px1) (hy : Cmp E nt vs y px2) :
   Cmp E nt vs (.seq (.region id ops d) (.cond c x y)) (.bbranch pos px px1 px2)
 | bbranchSeq (id : Nat) (ops : Array Oper) (d : Bool) (pos : List PO) (c : Operand) (px : PX) (x y r : Code) (px1 px2 pr : PC) (h : compB E nt vs ops d = some pos) (hc : cx E vs ops.toList c = some px) (hx : Cmp E nt vs x px1) (hy : Cmp E nt vs y px2) (hr : Cmp E nt vs r pr) :
   Cmp E nt vs (.seq (.region id ops d) (.seq (.cond c x y) r)) (.seq (.bbranch pos px px1 px2) pr)
 | mloop (id : Nat) (ops : Array Oper) (y : Code) (p : PC) (h : compM E nt vs ops y = some p) : Cmp E nt vs (.seq (.region id ops false) y) p
 | guarded (id : Nat) (ops : Array Oper) (kd : Nat) (caps : List PX) (y : Code) (q : PC) (h : compDefer E nt vs ops = some (kd, caps)) (hy : Cmp E nt vs y q) : Cmp E nt vs (.seq (.region id ops false) y) (.guarded kd caps q)
 | seq (x y : Code) (p q : PC) (hx : Cmp E nt vs x p) (hy : Cmp E nt vs y q) : Cmp E nt vs (.seq x y) (.seq p q)
 | cond (c : Operand) (px : PX) (x y : Code) (p q : PC) (hc : cx E vs [] c = some px) (hx : Cmp E nt vs x p) (hy : Cmp E nt vs y q) : Cmp E nt vs (.cond c x y) (.branch [] px p q)
 | block (id : Nat) (x : Code) (p : PC) (hx : Cmp E nt vs x p) : Cmp E nt vs (.block id x) (.block id p)
 | loop (x : Code) (p : PC) (hx : Cmp E nt vs x p) : Cmp E nt vs (.loop x) (.loop p)
 | rangeF (g : Operand) (ps : Array Tmp) (as body : Code) (px : PX) (kb : Nat) (vars : List Tmp) (caps : List PX) (hg : cx E vs [] g = some px) (hl : (ps, kb, vars) ∈ E.lps) (hv : cxs E vs [] (vars.map .tmp) = some caps) :
   Cmp E nt vs (.rangeFunc g ps as body) (.rangeF px kb caps)
 | stuck (x : Code) : Cmp E nt vs x stuckC
 | exit (id : Nat) : Cmp E nt vs (.exit id) (.exit id)
 | ret : Cmp E nt vs .ret .ret
def regC (E : Env) (nt : Nat) (vs : List Tmp) (ops : Array Oper) (d : Bool) : PC :=
 if hasB E ops.toList then (match compB E nt vs ops d with | some pos => .bregion pos | none => stuckC)
 else match compR E nt vs ops d with
  | some pos => if d then .region pos else (match compRaise E nt vs ops with | some r => .raise r.1 r.2.1 r.2.2 | none => .region pos)
  | none => if d then stuckC else (match compRaise E nt vs ops with | some r => .raise r.1 r.2.1 r.2.2 | none => stuckC)
def brC (E : Env) (nt : Nat) (vs : List Tmp) (ops : Array Oper) (d : Bool) (c : Operand) (p q : PC) : PC :=
 if hasB E ops.toList then (match compB E nt vs ops d, cx E vs ops.toList c with | some pos, some px => .bbranch pos px p q | _, _ => stuckC)
 else match compR E nt vs ops d, cx E vs ops.toList c with
  | some pos, some px => .branch pos px p q
  | _, _ => stuckC
theorem regC_cmp {E : Env} {nt : Nat} {vs : List Tmp} (id : Nat) (ops : Array Oper) (d : Bool) : Cmp E nt vs (.region id ops d) (regC E nt vs ops d) := by
 unfold regC
 split
 ·split
  ·exact .bregion id ops d _ (by assumption)
  ·exact .stuck _
 ·split
  ·split
   ·exact .region id ops d _ (by assumption)
   ·rename_i hd
    have : d = false := by simpa using hd
    subst this
    split
    ·exact .raise id ops _ _ _ (by assumption)
    ·exact .region id ops false _ (by assumption)
  ·split
   ·exact .stuck _
   ·rename_i hd
    have : d = false := by simpa using hd
    subst this
    split
    ·exact .raise id ops _ _ _ (by assumption)
    ·exact .stuck _
theorem brC_cmp {E : Env} {nt : Nat} {vs : List Tmp} (id : Nat) (ops : Array Oper) (d : Bool) (c : Operand) {x y : Code} {p q : PC} (hx : Cmp E nt vs x p) (hy : Cmp E nt vs y q) : Cmp E nt vs (.seq (.region id ops d) (.cond c x y)) (brC E nt vs ops d c p q) := by
 unfold brC
 split
 ·split
  ·exact .bbranch id ops d _ c _ x y p q (by assumption) (by assumption) hx hy
  ·exact .stuck _
 ·split
  ·exact .branch id ops d _ c _ x y p q (by assumption) (by assumption) hx hy
  ·exact .stuck _
def isStuck : PC → Bool
 | .branch [] (.c .dead) .skip .skip => true
 | _ => false
theorem brC_seq {E : Env} {nt : Nat} {vs : List Tmp} (id : Nat) (ops : Array Oper) (d : Bool) (c : Operand) {x y r : Code} {p q pr : PC} (hx : Cmp E nt vs x p) (hy : Cmp E nt vs y q) (hr : Cmp E nt vs r pr) :
  Cmp E nt vs (.seq (.region id ops d) (.seq (.cond c x y) r)) (if isStuck (brC E nt vs ops d c p q) then stuckC else .seq (brC E nt vs ops d c p q) pr) := by
 split
 ·exact .stuck _
 ·rename_i hs
  unfold brC at hs ⊢
  split
  ·rename_i hb
   rw [if_pos hb] at hs
   split
   ·exact .bbranchSeq id ops d _ c _ x y r p q pr (by assumption) (by assumption) hx hy hr
   ·rename_i h1
    split at hs
    ·rename_i a b h2 h3; exact absurd rfl (fun e : (0 : Nat) = 0 => h1 _ _ h2 h3)
    ·simp [isStuck, stuckC] at hs
  ·rename_i hb
   rw [if_neg hb] at hs
   split
   ·exact .branchSeq id ops d _ c _ x y r p q pr (by assumption) (by assumption) hx hy hr
   ·rename_i h1
    split at hs
    ·rename_i a b h2 h3; exact absurd rfl (fun e : (0 : Nat) = 0 => h1 _ _ h2 h3)
    ·simp [isStuck, stuckC] at hs
def compC (E : Env) (nt : Nat) (vs : List Tmp) : Code → PC
 | .skip => .skip
 | .region _ ops d => regC E nt vs ops d
 | .seq (.region _ ops d) (.cond c x y) => brC E nt vs ops d c (compC E nt vs x) (compC E nt vs y)
 | .seq (.region _ ops d) (.seq (.cond c x y) r) => if isStuck (brC E nt vs ops d c (compC E nt vs x) (compC E nt vs y)) then stuckC else .seq (brC E nt vs ops d c (compC E nt vs x) (compC E nt vs y)) (compC E nt vs r)
 | .seq (.region _ ops false) y => match compDefer E nt vs ops with
   | some r => .guarded r.1 r.2 (compC E nt vs y)
   | none => match compM E nt vs ops y with
     | some p => p
     | none => .seq (regC E nt vs ops false) (compC E nt vs y)
 | .seq x y => .seq (compC E nt vs x) (compC E nt vs y)
 | .cond c x y => match cx E vs [] c with
   | some px => .branch [] px (compC E nt vs x) (compC E nt vs y)
   | none => stuckC
 | .block id x => .block id (compC E nt vs x)
 | .loop x => .loop (compC E nt vs x)
 | .rangeFunc g ps _ _ => match cx E vs [] g, E.lps.find? (fun y => y.1 == ps) with
   | some px, some y => match cxs E vs [] (y.2.2.map .tmp) with
     | some caps => .rangeF px y.2.1 caps
     | none => stuckC
   | _, _ => stuckC
 | .exit id => .exit id
 | .ret => .ret
 | _ => stuckC
theorem compC_cmp {E : Env} {nt : Nat} {vs : List Tmp} : ∀ {c : Code}, Cmp E nt vs c (compC E nt vs c) := by
 intro c
 fun_induction compC E nt vs c with
 | case1 => exact .skip
 | case2 id ops d => exact regC_cmp id ops d
 | case3 id ops d c x y ihx ihy => exact brC_cmp id ops d c ihx ihy
 | case4 => exact .stuck _
 | case5 id ops d c x y r h ihx ihy ihr =>
   have := brC_seq id ops d c ihx ihy ihr
   rw [if_neg h] at this
   exact this
 | case6 id ops y _ _ r h ihy => exact .guarded id ops _ _ y _ h ihy
 | case7 id ops y _ _ h p hm => exact .mloop id ops y p hm
 | case8 id ops y _ _ h hm ihy => exact .seq _ y _ _ (regC_cmp id ops false) ihy
 | case9 x y _ _ _ ihx ihy => exact .seq x y _ _ ihx ihy
 | case10 c x y px h ihx ihy => exact .cond c px x y _ _ h ihx ihy
 | case11 => exact .stuck _
 | case12 id x ih => exact .block id x _ ih
 | case13 x ih => exact .loop x _ ih
 | case14 g ps a b px y e1 e2 caps e3 =>
   have h2 : E.lps.find? (fun y => y.1 == ps) = some y := by assumption
   have hm := List.mem_of_find?_eq_some h2
   have he := List.find?_some h2
   obtain ⟨y1, y2, y3⟩ := y
   have he' : y1 = ps := by simpa using he
   subst he'
   exact .rangeF g y1 a b px y2 y3 caps (by assumption) hm (by assumption)
 | case15 => exact .stuck _
 | case16 => exact .stuck _
 | case17 id => exact .exit id
 | case18 => exact .ret
 | case19 => exact .stuck _
end PI
