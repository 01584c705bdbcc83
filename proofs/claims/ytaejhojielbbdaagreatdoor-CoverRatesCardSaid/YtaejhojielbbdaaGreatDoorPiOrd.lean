/-
  Two operations of a region that touch different things may change places.
-/
import Derived.Test.YtaejhojielbbdaaGreatDoorPiComp
set_option linter.unusedSimpArgs false
set_option linter.unusedVariables false
set_option linter.unusedSectionVars false
namespace PI
def memOf : POp → Nat
 | .h (.buildA ..) | .h (.store ..) | .h (.mset ..) | .h (.mdel ..) | .h (.bcall ..) | .h (.bcallv ..) => 2
 | .h (.mkfunc _ a b) => if (a ++ b).isEmpty then 0 else 4
 | .load _ _ _ tk => if tk then 3 else 1
 | .store .. | .newloc _ | .boxloc .. | .sliceLoc .. => 2
 | _ => 0
/-- What an operation has to do with the shared heap: 2: writes, 1: reads. -/
def heapOf : POp → Nat
 | .h (.newobj ..) | .h .newbld | .h (.boxobj ..) | .h (.mkarr ..) | .h (.mkrow ..) | .h (.buildA ..) | .h (.loadn ..) | .h (.range ..) | .h (.next ..) | .h .mkmap | .h (.call ..) | .h (.callv ..) | .h (.zcall ..) | .h (.icall ..) | .h (.bcall ..) | .h (.bcallv ..) | .h (.happ ..) | .h (.happz ..) | .h (.clear ..) | .h (.store ..) | .h (.storer ..) | .h (.mset ..) => 2
 | .h (.load _ _ _ tk) => if tk then 2 else 1
 | .h (.lookup _ tk _ _ _ _ _) => if tk then 2 else 1
 | .h (.mlen ..) | .h (.rcall ..) | .h (.lcall ..) => 1
 | _ => 0
def shutsOf : POp → List PX
 | .h (.mkfunc _ a b) => a ++ b
 | _ => []
def takesOf : POp → List PX
 | .take x => [x]
 | .append _ _ s _ => [s]
 | .appstr s _ => [s]
 | .h (.happ _ _ _ s _) => [s]
 | .pcallx _ xs (some i) => xs[i]?.toList
 | _ => []
def sameX : PX → PX → Bool
 | .v i, .v j => i == j
 | .l i, .l j => i == j
 | _, _ => false
def isX (d : PD) (j : Nat) (x : PX) : Bool :=
 match d with
 | .v i => sameX (.v i) x
 | .l => sameX (.l j) x
 | .n => false
def readsG (p : PO) : List PX := (match p.guard with | some (x, _) => [x] | none => []) ++ readsOf p.op
def isV : PD → Bool
 | .v _ => true
 | _ => false
/-- What p writes, q does not look at. -/
def apart (j : Nat) (p q : PO) : Bool := (readsG q).all (fun x => !isX p.dst j x) && (!isV p.dst || memOf q.op == 0)
def sameD (d d' : PD) : Bool :=
 match d, d' with
 | .v i, .v j => i == j
 | _, _ => false
def comm (jp : Nat) (p : PO) (jq : Nat) (q : PO) : Bool :=
 memOf p.op != 2 && memOf q.op != 2 && !(memOf p.op == 3 && memOf q.op == 3) && !(memOf p.op == 4 && memOf q.op != 0) && !(memOf q.op == 4 && memOf p.op != 0) &&
 !(heapOf p.op == 2 && heapOf q.op != 0) && !(heapOf q.op == 2 && heapOf p.op != 0) && (shutsOf p.op).all (fun x => !(readsG q).any (sameX x)) && (shutsOf q.op).all (fun x => !(readsG p).any (sameX x)) && apart jp p q && apart jq q p && !sameD p.dst q.dst && (takesOf p.op).all (fun x => !(takesOf q.op).any (sameX x))
/-- What a reader sees of a place. -/
def vw : PV → PV
 | .list _ es => .list false es
 | .loc g _ => .loc g []
 | v => v
theorem cp_vw (v : PV) : cp v = cp (vw v) := by cases v <;> rfl
inductive Dm where
 | none
 | src (x : PX)
 | cell (s off : Nat)
 | heap (h : List PObj)
 | shut (xs : List PX)
def demCell (off : Nat) : PV → PV
 | .loc g cs => .loc g (cs.modify off dem)
 | v => v
def shutV : PV → PV
 | .loc _ cs => .cptr (cs.map dem)
 | v => v
def shut1 (x : PX) (st : St) : St :=
 match x with
 | .v i => { st with vars := st.vars.modify i shutV }
 | _ => st
def shuts : List PX → St → St
 | [], st => st
 | x :: xs, st => shuts xs (shut1 x st)
def Dm.app : Dm → St → St
 | .heap h, st => { st with heap := h }
 | .shut xs, st => shuts xs st
 | .none, st => st
 | .src (.v i), st => { st with vars := st.vars.modify i dem }
 | .src (.l j), st => { st with locs := st.locs.modify j dem }
 | .src (.c _), st => st
 | .cell s off, st => { st with vars := st.vars.modify s (demCell off) }
def LocEq (exact : Bool) (st st' : St) : Prop :=
 ∀ (s g : Nat) (cs : List PV), st.vars[s]? = some (.loc g cs) → ∃ cs', st'.vars[s]? = some (.loc g cs') ∧ cs'.map dem = cs.map dem ∧ (exact = true → cs' = cs)
/-- The variable whose box an operation looks into, and into no other. -/
def slotOf : POp → Option Nat
 | .loadv s _ _ _ => some s
 | _ => none
def SlotEq (s : Nat) (st st' : St) : Prop := ∀ (g : Nat) (cs : List PV), st.vars[s]? = some (.loc g cs) → ∃ cs', st'.vars[s]? = some (.loc g cs') ∧ cs'.map dem = cs.map dem
/-- What an operation sees is the same. -/
structure Sim (o : POp) (rs : List PX) (st st' : St) : Prop where
 reads : ∀ x ∈ rs, (raw st x).map vw = (raw st' x).map vw
 takes : ∀ x ∈ takesOf o, ∀ es, raw st x = some (.list true es) ↔ raw st' x = some (.list true es)
 mem : 1 ≤ memOf o → LocEq (memOf o == 3) st st'
 heap : 1 ≤ heapOf o → st'.heap = st.heap
 slot : ∀ s, slotOf o = some s → SlotEq s st st' ∧ SlotEq s st' st
section
variable {o : POp} {rs : List PX} {st st' : St}
theorem Sim.rd (h : Sim o rs st st') {x : PX} (hx : x ∈ rs) : rd st x = rd st' x := by
 have := h.reads x hx
 unfold PI.rd
 cases h1 : raw st x <;> cases h2 : raw st' x <;> simp [h1, h2] at this ⊢
 rw [cp_vw, this, ← cp_vw]
theorem Sim.rdInt (h : Sim o rs st st') {x : PX} (hx : x ∈ rs) : rdInt st x = rdInt st' x := by
 unfold PI.rdInt; rw [h.rd hx]
theorem elsOf_sim (h : Sim o rs st st') {x : PX} (hx : x ∈ rs) (hm : 1 ≤ heapOf o) : elsOf st x = elsOf st' x := by
 unfold PI.elsOf
 rw [h.rd hx]
 unfold hget
 rw [h.heap hm]
def addrOf (x : PX) (r : Option PV) : Option PV :=
 match x, r with
 | .v i, some (.loc g _) => some (.lptr i g 0)
 | _, some (.lptr s g off) => some (.lptr s g off)
 | _, some v => cp v
 | _, none => none
theorem addr_eq (st : St) (x : PX) : addr st x = addrOf x (raw st x) := rfl
theorem addrOf_vw (x : PX) (v : PV) : addrOf x (some v) = addrOf x (some (vw v)) := by
 cases v <;> cases x <;> rfl
theorem Sim.addr (h : Sim o rs st st') {x : PX} (hx : x ∈ rs) : addr st x = addr st' x := by
 have := h.reads x hx
 rw [addr_eq, addr_eq]
 cases h1 : raw st x <;> cases h2 : raw st' x <;> simp [h1, h2] at this ⊢
 rw [addrOf_vw, this, ← addrOf_vw]
theorem Sim.rdAll (h : Sim o rs st st') : ∀ {xs : List PX}, (∀ x ∈ xs, x ∈ rs) → rdAll st xs = rdAll st' xs
 | [], _ => rfl
 | x :: xs, hx => by
   simp only [PI.rdAll]
   rw [h.rd (hx x (by simp)), h.rdAll (xs := xs) (fun y hy => hx y (by simp [hy]))]
theorem Sim.rdParts (h : Sim o rs st st') : ∀ {xs : List (Nat × Nat × PX)}, (∀ x ∈ xs, x.2.2 ∈ rs) → rdParts st xs = rdParts st' xs
 | [], _ => rfl
 | (a, b, x) :: xs, hx => by
   simp only [PI.rdParts]
   rw [h.rd (hx (a, b, x) (by simp)), h.rdParts (xs := xs) (fun y hy => hx y (by simp [hy]))]
theorem Sim.rdElems (h : Sim o rs st st') : ∀ {xs : List (Nat × PX)}, (∀ x ∈ xs, x.2 ∈ rs) → rdElems st xs = rdElems st' xs
 | [], _ => rfl
 | (a, x) :: xs, hx => by
   simp only [PI.rdElems]
   rw [h.rd (hx (a, x) (by simp)), h.rdElems (xs := xs) (fun y hy => hx y (by simp [hy]))]
theorem Sim.bound (h : Sim o rs st st') {x : Option PX} (hx : ∀ y ∈ x.toList, y ∈ rs) (d m : Nat) : bound st x d m = bound st' x d m := by
 cases x with
 | none => rfl
 | some y => simp only [PI.bound]; rw [h.rdInt (hx y (by simp))]
theorem modify_same {l : List PV} {i : Nat} {v : PV} (h : l[i]? = some v) (f : PV → PV) : l.modify i f = l.set i (f v) := by
 apply List.ext_getElem?
 intro k
 rw [List.getElem?_modify, List.getElem?_set]
 by_cases hk : i = k
 ·subst hk
  obtain ⟨hlt, rfl⟩ := List.getElem?_eq_some_iff.1 h
  simp [hlt]
 ·simp [hk]
theorem modify_id {l : List PV} {i : Nat} {f : PV → PV} (h : ∀ v, l[i]? = some v → f v = v) : l.modify i f = l := by
 apply List.ext_getElem?
 intro k
 rw [List.getElem?_modify]
 by_cases hk : i = k
 ·subst hk
  cases hv : l[i]? with
  | none => simp
  | some v => simp [h v hv]
 ·simp [hk]
/-- Taking, as a change of marks. -/
theorem tk_dm {x : PX} {u : PV} {st1 : St} (h : tk st x = some (u, st1)) : st1 = (Dm.src x).app st ∧ ∀ st', (raw st x).map vw = (raw st' x).map vw → (∀ es, raw st x = some (.list true es) ↔ raw st' x = some (.list true es)) → tk st' x = some (u, (Dm.src x).app st') := by
 have app_own : ∀ (st : St) (es : List PV), raw st x = some (.list true es) → setSrc st x (.list false es) = (Dm.src x).app st := by
  intro st es hr
  cases x with
  | v i => simp only [setSrc, Dm.app]; rw [modify_same hr]; rfl
  | l i => simp only [setSrc, Dm.app]; rw [modify_same hr]; rfl
  | c p => rfl
 have app_id : ∀ (st : St), (∀ v, raw st x = some v → dem v = v) → (Dm.src x).app st = st := by
  intro st hv
  cases x with
  | v i => simp only [Dm.app]; rw [modify_id hv]
  | l i => simp only [Dm.app]; rw [modify_id hv]
  | c p => rfl
 have dem_id : ∀ v : PV, (∀ es, v ≠ .list true es) → dem v = v := by
  intro v hv
  cases v <;> try rfl
  rename_i own es
  cases own with
  | true => exact absurd rfl (hv es)
  | false => rfl
 unfold tk at h
 split at h
 ·rename_i es hr
  simp only [Option.some.injEq, Prod.mk.injEq] at h
  obtain ⟨rfl, rfl⟩ := h
  refine ⟨app_own st es hr, ?_⟩
  intro st' _ h2
  have hr' := (h2 es).1 hr
  unfold tk
  rw [hr']
  simp only [Option.some.injEq, Prod.mk.injEq, true_and]
  exact app_own st' es hr'
 ·rename_i v hnot hr
  simp only [Option.map_eq_some_iff, Prod.mk.injEq] at h
  obtain ⟨r, hr2, rfl, rfl⟩ := h
  refine ⟨(app_id _ (fun v' hv' => by rw [hr] at hv'; simp at hv'; subst hv'; exact dem_id _ hnot)).symm, ?_⟩
  intro st' h1 h2
  have hnot' : ∀ es, raw st' x ≠ some (.list true es) := fun es e => by
   have := (h2 es).2 e
   rw [hr] at this; simp at this; exact hnot es this
  cases hv : raw st' x with
  | none => rw [hr, hv] at h1; simp at h1
  | some v' =>
    have hvw : vw v = vw v' := by rw [hr, hv] at h1; simpa using h1
    have hcp : cp v' = some r := by rw [cp_vw, ← hvw, ← cp_vw]; exact hr2
    have hne : ∀ es, v' ≠ .list true es := fun es e => hnot' es (by rw [hv, e])
    have hid := app_id st' (fun v2 hv2 => by rw [hv] at hv2; simp at hv2; subst hv2; exact dem_id _ hne)
    unfold tk
    rw [hv]
    split
    ·rename_i es he; simp at he; exact absurd he (hne es)
    ·rename_i v2 _ he
     simp at he; subst he
     simp [hcp, hid]
    ·rename_i he; simp at he
 ·simp at h
theorem loadFrom_dem {size : Nat} {agg : Bool} {cs cs' : List PV} {off : Nat} (h : cs'.map dem = cs.map dem) : loadFrom size agg cs off = loadFrom size agg cs' off := by
 have hl : cs'.length = cs.length := by simpa using congrArg List.length h
 unfold loadFrom
 rw [hl]
 split
 ·split
  ·congr 2
   have := congrArg (fun l => (l.drop off).take size) h
   simpa using this.symm
  ·rfl
 ·have hg : (cs[off]?).map dem = (cs'[off]?).map dem := by
   have := congrArg (fun l => l[off]?) h
   simpa using this.symm
  cases h1 : cs[off]? with
  | none => cases h2 : cs'[off]? with
    | none => rfl
    | some v => rw [h1, h2] at hg; simp at hg
  | some v => cases h2 : cs'[off]? with
    | none => rw [h1, h2] at hg; simp at hg
    | some v' =>
      rw [h1, h2] at hg
      simp at hg
      have : ∀ x, cp x = cp (dem x) := fun x => by cases x <;> rfl
      simp only
      rw [this v, hg, ← this v']
def Fits (o : POp) (d : Dm) : Prop :=
 match d with
 | .none => True
 | .src x => x ∈ takesOf o
 | .cell _ _ => memOf o = 3
 | .heap _ => heapOf o = 2
 | .shut xs => memOf o = 4 ∧ xs = shutsOf o
/-- Shutting boxes, in a state that looks alike. -/
theorem capts_dm : ∀ {xs : List PX} {st st1 : St} {us : List PV}, capts st xs = some (us, st1) → st1 = shuts xs st ∧
  ∀ st', (∀ x ∈ xs, (raw st x).map vw = (raw st' x).map vw) → LocEq false st st' → capts st' xs = some (us, shuts xs st')
 | [], st, st1, us, h => by
   simp only [capts, Option.some.injEq, Prod.mk.injEq] at h
   obtain ⟨rfl, rfl⟩ := h
   exact ⟨rfl, fun st' _ _ => rfl⟩
 | x :: xs, st, st1, us, h => by
   simp only [capts, Option.bind_eq_some_iff, Option.map_eq_some_iff, Prod.mk.injEq] at h
   obtain ⟨⟨v, st2⟩, h1, ⟨q, st3⟩, h2, rfl, rfl⟩ := h
   obtain ⟨i1, i2⟩ := capts_dm h2
   have one : st2 = shut1 x st ∧ ∀ st', (raw st x).map vw = (raw st' x).map vw → LocEq false st st' → capt st' x = some (v, shut1 x st') := by
    by_cases hloc : ∃ i g cs, x = .v i ∧ raw st x = some (.loc g cs)
    ·obtain ⟨i, g, cs, rfl, hr⟩ := hloc
     simp only [capt, hr, Option.some.injEq, Prod.mk.injEq] at h1
     obtain ⟨rfl, rfl⟩ := h1
     have hr' : st.vars[i]? = some (.loc g cs) := hr
     refine ⟨by simp only [shut1]; rw [modify_same hr']; rfl, ?_⟩
     intro st' _ hl
     obtain ⟨cs', e1, e2, _⟩ := hl i g cs hr'
     have e1' : raw st' (.v i) = some (.loc g cs') := e1
     unfold capt
     rw [e1']
     simp only [shut1]
     rw [modify_same e1]
     simp only [shutV, e2]
    ·have hno : ∀ i g cs, x = .v i → raw st x = some (.loc g cs) → False := fun i g cs e h => hloc ⟨i, g, cs, e, h⟩
     have hcp : ∀ st : St, (∀ i g cs, x = .v i → raw st x = some (.loc g cs) → False) → capt st x = (rd st x).map (·, st) := by
      intro st hn
      unfold capt
      split
      ·rename_i i g cs h; exact absurd h (fun h => hn i g cs rfl h)
      ·rfl
     rw [hcp st hno] at h1
     simp only [Option.map_eq_some_iff, Prod.mk.injEq] at h1
     obtain ⟨r, hr, rfl, rfl⟩ := h1
     have hid : ∀ st : St, (∀ i g cs, x = .v i → st.vars[i]? ≠ some (.loc g cs)) → shut1 x st = st := by
      intro st hn
      cases x with
      | v i =>
        simp only [shut1]
        rw [modify_id]
        intro u hu
        cases u <;> first | rfl | exact absurd hu (hn i _ _ rfl)
      | l i => rfl
      | c p => rfl
     refine ⟨(hid st (fun i g cs e h => hno i g cs e (by rw [e]; exact h))).symm, ?_⟩
     intro st' hv hl
     have hno' : ∀ i g cs, x = .v i → st'.vars[i]? ≠ some (.loc g cs) := by
      intro i g cs e h
      subst e
      have h' : raw st' (.v i) = some (.loc g cs) := h
      rw [h'] at hv
      cases hq : raw st (.v i) with
      | none => rw [hq] at hv; simp at hv
      | some u =>
        rw [hq] at hv
        simp only [Option.map_some, Option.some.injEq] at hv
        cases u <;> simp [vw] at hv
        exact hno i _ _ rfl hq
     have hrd : rd st' x = some r := by
      unfold rd at hr ⊢
      cases h3 : raw st x <;> cases h4 : raw st' x <;> simp [h3, h4] at hv hr ⊢
      rw [cp_vw, ← hv, ← cp_vw]; exact hr
     rw [hid st' hno', hcp st' (fun i g cs e h => hno' i g cs e (by rw [e] at h; exact h))]
     simp [hrd]
   obtain ⟨o1, o2⟩ := one
   subst o1
   refine ⟨i1, ?_⟩
   intro st' hv hl
   have hstep := o2 st' (hv x (List.mem_cons_self ..)) hl
   have hv2 : ∀ y ∈ xs, (raw (shut1 x st) y).map vw = (raw (shut1 x st') y).map vw := by
    intro y hy
    have hy' := hv y (List.mem_cons_of_mem _ hy)
    cases x with
    | l i => exact hy'
    | c p => exact hy'
    | v i =>
      cases y with
      | l k => exact hy'
      | c p => rfl
      | v k =>
        simp only [shut1, raw, List.getElem?_modify] at hy' ⊢
        by_cases hik : i = k
        ·subst hik
         cases h3 : st.vars[i]? with
         | none => rw [h3] at hy'; cases h4 : st'.vars[i]? <;> simp [h4] at hy' ⊢
         | some u =>
           rw [h3] at hy'
           cases h4 : st'.vars[i]? with
           | none => rw [h4] at hy'; simp at hy'
           | some u' =>
             rw [h4] at hy'
             simp only [Option.map_some, Option.some.injEq] at hy'
             simp only [if_true, Option.map_eq_map, Option.map_some, Option.some.injEq]
             cases u with
             | loc g cs =>
               obtain ⟨cs', e1, e2, _⟩ := hl i g cs h3
               rw [h4] at e1
               simp at e1; subst e1
               simp [shutV, e2]
             | _ => cases u' <;> simp [vw] at hy' <;> simp_all [shutV, vw]
        ·simp only [hik, if_false]
         cases h3 : st.vars[k]? <;> cases h4 : st'.vars[k]? <;> simp [h3, h4] at hy' ⊢
         exact hy'
   have hl2 : LocEq false (shut1 x st) (shut1 x st') := by
    cases x with
    | l i => exact hl
    | c p => exact hl
    | v i =>
      intro s g cs hs
      simp only [shut1, List.getElem?_modify] at hs ⊢
      by_cases his : i = s
      ·subst his
       cases h3 : st.vars[i]? with
       | none => rw [h3] at hs; simp at hs
       | some u => rw [h3] at hs; cases u <;> simp [shutV] at hs
      ·simp only [his, if_false] at hs ⊢
       cases h3 : st.vars[s]? with
       | none => rw [h3] at hs; simp at hs
       | some u =>
         rw [h3] at hs
         simp at hs; subst hs
         obtain ⟨cs', e1, e2, e3⟩ := hl s g cs h3
         exact ⟨cs', by simp [e1], e2, e3⟩
   have := i2 _ hv2 hl2
   simp only [capts, hstep, Option.bind_some, this, Option.map_some, shuts]
theorem shuts_append : ∀ (a b : List PX) (st : St), shuts (a ++ b) st = shuts b (shuts a st)
 | [], _, _ => rfl
 | x :: a, b, st => by simp only [List.cons_append, shuts]; exact shuts_append a b _
theorem capts_append : ∀ {a b : List PX} {st : St}, capts st (a ++ b) = (capts st a).bind fun f => (capts f.2 b).map fun c => (f.1 ++ c.1, c.2)
 | [], b, st => by simp only [List.nil_append, capts, Option.bind_some]; cases capts st b <;> rfl
 | x :: a, b, st => by
   simp only [List.cons_append, capts, capts_append (a := a)]
   cases capt st x with
   | none => rfl
   | some r =>
     simp only [Option.bind_some]
     cases capts r.2 a with
     | none => rfl
     | some f =>
       simp only [Option.bind_some, Option.map_some]
       cases capts f.2 b <;> rfl
theorem capts_len : ∀ {xs : List PX} {st st1 : St} {us : List PV}, capts st xs = some (us, st1) → us.length = xs.length
 | [], st, st1, us, h => by simp [capts] at h; simp [← h.1]
 | x :: xs, st, st1, us, h => by
   simp only [capts, Option.bind_eq_some_iff, Option.map_eq_some_iff, Prod.mk.injEq] at h
   obtain ⟨r, _, q, h2, rfl, _⟩ := h
   simp [capts_len h2]
theorem mkfunc_dm {cf : CallF} {k : Nat} {a b : List PX} {u : PV} {st st1 : St} (h : hopv cf (.mkfunc k a b) st = some (u, st1)) :
  st1 = shuts (a ++ b) st ∧ ∀ st', (∀ x ∈ a ++ b, (raw st x).map vw = (raw st' x).map vw) → LocEq false st st' → hopv cf (.mkfunc k a b) st' = some (u, shuts (a ++ b) st') := by
 simp only [hopv, Option.bind_eq_some_iff, Option.map_eq_some_iff, Prod.mk.injEq] at h
 obtain ⟨⟨f, st2⟩, h1, ⟨c, st3⟩, h2, rfl, rfl⟩ := h
 have hab : capts st (a ++ b) = some (f ++ c, st3) := by rw [capts_append, h1]; simp [h2]
 obtain ⟨e1, e2⟩ := capts_dm hab
 obtain ⟨e3, e4⟩ := capts_dm h1
 refine ⟨e1, ?_⟩
 intro st' hv hl
 have g1 := e4 st' (fun x hx => hv x (List.mem_append_left _ hx)) hl
 have g2 := e2 st' hv hl
 rw [capts_append, g1] at g2
 simp only [Option.bind_some, Option.map_eq_some_iff, Prod.mk.injEq] at g2
 obtain ⟨⟨c', st4⟩, g3, g4, g5⟩ := g2
 have hc : c' = c := List.append_cancel_left g4
 subst hc
 simp only [hopv, g1, Option.bind_some, g3, Option.map_some]
 simp only at g5
 rw [g5]
/-- An operation as a value and a change of marks. -/
theorem opv_dm {cf : CallF} {u : PV} {st1 : St} (hm : memOf o ≠ 2) (hsub : ∀ x ∈ readsOf o, x ∈ rs) (h : opv cf o st = some (u, st1)) :
  ∃ d : Dm, st1 = d.app st ∧ Fits o d ∧ ∀ st', Sim o rs st st' → opv cf o st' = some (u, d.app st') := by
 have pure : st1 = st → (∀ st', Sim o rs st st' → opv cf o st' = (opv cf o st).map fun r => (r.1, st')) → ∃ d : Dm, st1 = d.app st ∧ Fits o d ∧ ∀ st', Sim o rs st st' → opv cf o st' = some (u, d.app st') := by
  intro e hs
  refine ⟨.none, e, trivial, ?_⟩
  intro st' hsim
  rw [hs st' hsim, h]; rfl
 cases o with
 | anyo bef fr => simp [opv] at h
 | h o =>
   have heapy : heapOf (.h o) = 2 → (∀ st', st'.heap = st.heap → (∀ x ∈ readsOfH o, rd st x = rd st' x) → (∀ x ∈ readsOfH o, addr st x = addr st' x) → hopv cf o st' = (hopv cf o st).map fun r => (r.1, { st' with heap := r.2.heap })) → (∀ u st1, hopv cf o st = some (u, st1) → st1 = { st with heap := st1.heap }) →
     ∃ d : Dm, st1 = d.app st ∧ Fits (.h o) d ∧ ∀ st', Sim (.h o) rs st st' → opv cf (.h o) st' = some (u, d.app st') := by
    intro h2 hs he
    have h' : hopv cf o st = some (u, st1) := h
    refine ⟨.heap st1.heap, he _ _ h', h2, ?_⟩
    intro st' hsim
    show hopv cf o st' = _
    rw [hs st' (hsim.heap (by omega)) (fun x hx => hsim.rd (hsub x hx)) (fun x hx => hsim.addr (hsub x hx)), h']
    rfl
   have hpure : (∀ u st1, hopv cf o st = some (u, st1) → st1 = st) → (∀ st', (1 ≤ heapOf (.h o) → st'.heap = st.heap) → (∀ x ∈ readsOfH o, rd st x = rd st' x) → (∀ x ∈ readsOfH o, addr st x = addr st' x) → hopv cf o st' = (hopv cf o st).map fun r => (r.1, st')) →
     ∃ d : Dm, st1 = d.app st ∧ Fits (.h o) d ∧ ∀ st', Sim (.h o) rs st st' → opv cf (.h o) st' = some (u, d.app st') := by
    intro e hs
    refine pure (e _ _ h) ?_
    intro st' hsim
    exact hs st' hsim.heap (fun x hx => hsim.rd (hsub x hx)) (fun x hx => hsim.addr (hsub x hx))
   have rdI : ∀ {st st' : St} {x : PX}, rd st x = rd st' x → rdInt st x = rdInt st' x := by intro st st' x hx; unfold PI.rdInt; rw [hx]
   have rdA : ∀ {st st' : St} {xs : List PX}, (∀ x ∈ xs, rd st x = rd st' x) → rdAll st xs = rdAll st' xs := by
    intro st st' xs
    induction xs with
    | nil => intro _; rfl
    | cons x xs ih => intro hx; simp only [PI.rdAll]; rw [hx x (by simp), ih (fun y hy => hx y (by simp [hy]))]
   cases o with
   | happ size agg by' a x =>
     have h' : hopv cf (.happ size agg by' a x) st = some (u, st1) := h
     simp only [hopv] at h'
     split at h'
     ·rename_i xs n sz ag len hx hra
      have key : ∀ st', Sim (.h (.happ size agg by' a x)) rs st st' → elsOf st' x = some xs ∧ raw st' a = some (.rowp n sz ag len) ∧ st'.heap = st.heap := by
       intro st' hsim
       refine ⟨by rw [← hx]; exact (elsOf_sim hsim (hsub x (by simp [readsOf, readsOfH])) (by simp [heapOf])).symm, ?_, hsim.heap (by simp [heapOf])⟩
       have := hsim.reads a (hsub a (by simp [readsOf, readsOfH]))
       rw [hra] at this
       cases hr' : raw st' a with
       | none => rw [hr'] at this; simp at this
       | some v' =>
         rw [hr'] at this
         cases v' <;> simp [vw] at this
         obtain ⟨rfl, rfl, rfl, rfl⟩ := this
         rfl
      split at h'
      ·rename_i cs hob
       split at h'
       ·rename_i hc
        simp only [Option.some.injEq, Prod.mk.injEq] at h'
        obtain ⟨rfl, rfl⟩ := h'
        refine ⟨.heap _, rfl, rfl, ?_⟩
        intro st' hsim
        obtain ⟨k1, k2, k3⟩ := key st' hsim
        simp only [opv, hopv, k1, k2, k3, hob]
        rw [if_pos hc]
        rfl
       ·simp at h'
      ·simp at h'
     ·rename_i xs hx hra
      have key : ∀ st', Sim (.h (.happ size agg by' a x)) rs st st' → elsOf st' x = some xs ∧ raw st' a = some (.list true []) ∧ st'.heap = st.heap := by
       intro st' hsim
       exact ⟨by rw [← hx]; exact (elsOf_sim hsim (hsub x (by simp [readsOf, readsOfH])) (by simp [heapOf])).symm, (hsim.takes a (by simp [takesOf]) []).1 hra, hsim.heap (by simp [heapOf])⟩
      split at h'
      ·rename_i hxs
       simp only [Option.some.injEq, Prod.mk.injEq] at h'
       obtain ⟨rfl, rfl⟩ := h'
       refine ⟨.heap st.heap, rfl, rfl, ?_⟩
       intro st' hsim
       obtain ⟨k1, k2, k3⟩ := key st' hsim
       simp only [opv, hopv, k1, k2, k3]
       rw [if_pos hxs]
       simp only [Dm.app, ← k3]
      ·rename_i hxs
       split at h'
       ·rename_i hc
        simp only [Option.some.injEq, Prod.mk.injEq] at h'
        obtain ⟨rfl, rfl⟩ := h'
        refine ⟨.heap _, rfl, rfl, ?_⟩
        intro st' hsim
        obtain ⟨k1, k2, k3⟩ := key st' hsim
        simp only [opv, hopv, k1, k2, k3]
        rw [if_neg hxs, if_pos hc]
        rfl
       ·simp at h'
     ·rename_i xs hx hra
      have key : ∀ st', Sim (.h (.happ size agg by' a x)) rs st st' → elsOf st' x = some xs ∧ raw st' a = some .nils ∧ st'.heap = st.heap := by
       intro st' hsim
       refine ⟨by rw [← hx]; exact (elsOf_sim hsim (hsub x (by simp [readsOf, readsOfH])) (by simp [heapOf])).symm, ?_, hsim.heap (by simp [heapOf])⟩
       have := hsim.reads a (hsub a (by simp [readsOf, readsOfH]))
       rw [hra] at this
       cases hr' : raw st' a with
       | none => rw [hr'] at this; simp at this
       | some v' =>
         rw [hr'] at this
         cases v' <;> simp [vw] at this
         rfl
      split at h'
      ·rename_i hxs
       simp only [Option.some.injEq, Prod.mk.injEq] at h'
       obtain ⟨rfl, rfl⟩ := h'
       refine ⟨.heap st.heap, rfl, rfl, ?_⟩
       intro st' hsim
       obtain ⟨k1, k2, k3⟩ := key st' hsim
       simp only [opv, hopv, k1, k2, k3]
       rw [if_pos hxs]
       simp only [Dm.app, ← k3]
      ·rename_i hxs
       split at h'
       ·rename_i hc
        simp only [Option.some.injEq, Prod.mk.injEq] at h'
        obtain ⟨rfl, rfl⟩ := h'
        refine ⟨.heap _, rfl, rfl, ?_⟩
        intro st' hsim
        obtain ⟨k1, k2, k3⟩ := key st' hsim
        simp only [opv, hopv, k1, k2, k3]
        rw [if_neg hxs, if_pos hc]
        rfl
       ·simp at h'
     ·simp at h'
   | happz size agg by' z a x =>
     refine heapy rfl (fun st' hh hr _ => ?_) (fun u st1 h => ?_)
     ·simp only [hopv, hh, ← rdI (hr x (by simp [readsOfH])), ← hr a (by simp [readsOfH])]
      (repeat' split) <;> rfl
     ·simp only [hopv] at h
      (repeat' split at h) <;> simp at h
      rw [← h.2]
   | clear size x =>
     refine heapy rfl (fun st' hh hr _ => ?_) (fun u st1 h => ?_)
     ·simp only [hopv, hh, ← hr x (by simp [readsOfH])]
      (repeat' split) <;> rfl
     ·simp only [hopv] at h
      (repeat' split at h) <;> simp at h
      rw [← h.2]
   | mkarr size agg by' z x =>
     refine heapy rfl (fun st' hh hr _ => ?_) (fun u st1 h => ?_)
     ·simp only [hopv, hh, ← rdI (hr x (by simp [readsOfH]))]
      (repeat' split) <;> rfl
     ·simp only [hopv] at h
      (repeat' split at h) <;> simp at h
      rw [← h.2]
   | range x =>
     refine heapy rfl (fun st' hh hr _ => ?_) (fun u st1 h => ?_)
     ·simp only [hopv, hh, ← hr x (by simp [readsOfH])]
      (repeat' split) <;> rfl
     ·simp only [hopv] at h
      (repeat' split at h) <;> simp at h
      rw [← h.2]
   | next x =>
     refine heapy rfl (fun st' hh hr _ => ?_) (fun u st1 h => ?_)
     ·simp only [hopv, ← hr x (by simp [readsOfH])]
      split
      ·rw [hh]
       split
       ·split
        ·simp only [hset, hh]; rfl
        ·simp only [Option.map_some, ← hh]
       ·rfl
      ·rfl
     ·simp only [hopv] at h
      (repeat' split at h) <;> simp at h
      ·rw [← h.2]; rfl
      ·rw [← h.2]
   | storer size agg a x =>
     refine heapy rfl (fun st' hh hr ha => ?_) (fun u st1 h => ?_)
     ·have hg : ∀ n, hget st' n = hget st n := fun n => by unfold hget; rw [hh]
      simp only [hopv, ← ha a (by simp [readsOfH]), ← hr x (by simp [readsOfH]), hg]
      split
      ·rename_i n off v _ _
       split
       ·rfl
       ·cases hget st n with
        | none => rfl
        | some cs =>
          simp only [Option.bind_some]
          cases storeInto size agg cs off v with
          | none => rfl
          | some cs' => simp only [Option.map_some, hset, hh]
      ·rfl
     ·simp only [hopv] at h
      split at h
      ·split at h
       ·simp at h
       ·simp only [Option.bind_eq_some_iff, Option.map_eq_some_iff, Prod.mk.injEq] at h
        obtain ⟨_, _, _, _, _, e⟩ := h
        rw [← e]; rfl
      ·simp at h
   | store size agg a x => simp [memOf] at hm
   | mset kagg ks m k v => simp [memOf] at hm
   | mdel kagg ks m k => simp [memOf] at hm
   | mkfunc k a b =>
     obtain ⟨e1, e2⟩ := mkfunc_dm (st := st) (by simpa [opv] using h)
     by_cases hemp : (a ++ b).isEmpty = true
     ·have hab : a ++ b = [] := by simpa using hemp
      rw [hab] at e1 e2
      refine ⟨.none, e1, trivial, ?_⟩
      intro st' hs
      have : a = [] ∧ b = [] := by simpa using hab
      obtain ⟨rfl, rfl⟩ := this
      have h' : hopv cf (.mkfunc k [] []) st = some (u, st1) := h
      simp only [hopv, capts, Option.bind_some, Option.map_some, Option.some.injEq, Prod.mk.injEq] at h'
      obtain ⟨rfl, _⟩ := h'
      rfl
     ·have hm4 : memOf (.h (.mkfunc k a b)) = 4 := by simp only [memOf, hemp, if_false]; rfl
      refine ⟨.shut (a ++ b), e1, ⟨hm4, rfl⟩, ?_⟩
      intro st' hs
      have hl := hs.mem (by omega)
      rw [hm4] at hl
      exact e2 st' (fun x hx => hs.reads x (hsub x hx)) hl
   | newobj z => exact heapy rfl (fun st' hh _ _ => by simp only [hopv, hh]; rfl) (fun u st1 h => by simp only [hopv, Option.some.injEq, Prod.mk.injEq] at h; rw [← h.2])
   | newbld => exact heapy rfl (fun st' hh _ _ => by simp only [hopv, hh]; rfl) (fun u st1 h => by simp only [hopv, Option.some.injEq, Prod.mk.injEq] at h; rw [← h.2])
   | mkmap => exact heapy rfl (fun st' hh _ _ => by simp only [hopv, hh]; rfl) (fun u st1 h => by simp only [hopv, Option.some.injEq, Prod.mk.injEq] at h; rw [← h.2])
   | buildA js z ps => simp [memOf] at hm
   | mkfresh size agg by' z x =>
     refine hpure (fun u st1 h => ?_) (fun st' _ hr _ => ?_)
     ·simp only [hopv] at h
      (repeat' split at h) <;> simp at h
      exact h.2.symm
     ·simp only [hopv, ← rdI (hr x (by simp [readsOfH]))]
      (repeat' split) <;> rfl
   | loadn x =>
     refine heapy rfl (fun st' hh hr ha => ?_) (fun u st1 h => ?_)
     ·simp only [hopv, hget, hset, hh, ← ha x (by simp [readsOfH])]
      cases addr st x with
      | none => rfl
      | some v =>
        cases v <;> try rfl
        rename_i n off
        simp only
        cases st.heap[n]? with
        | none => rfl
        | some ob =>
          cases ob <;> try rfl
          rename_i cs
          simp only [Option.bind_some]
          cases cs[off]? with
          | none => rfl
          | some y =>
            cases y <;> try rfl
            ·rename_i b es
             cases b <;> rfl
            ·simp only [Option.map_some, ← hh]
     ·simp only [hopv] at h
      split at h
      ·simp only [Option.bind_eq_some_iff] at h
       obtain ⟨cs, _, h⟩ := h
       split at h
       ·simp only [Option.some.injEq, Prod.mk.injEq] at h; rw [← h.2]; rfl
       ·simp only [Option.some.injEq, Prod.mk.injEq] at h; rw [← h.2]
       ·simp at h
      ·simp at h
   | mkrow size agg z len ps =>
     refine heapy rfl (fun st' hh hr _ => ?_) (fun u st1 h => ?_)
     ·have key : ∀ ps : List (Nat × PX), (∀ x ∈ ps.map (·.2), rd st x = rd st' x) → rdElems st ps = rdElems st' ps := by
       intro ps
       induction ps with
       | nil => intro _; rfl
       | cons q ps ih =>
         intro hq
         obtain ⟨a, x⟩ := q
         simp only [PI.rdElems]
         rw [hq x (by simp), ih (fun y hy => hq y (by simp only [List.map_cons, List.mem_cons]; exact .inr hy))]
      have e := key ps (fun x hx => hr x (by simpa [readsOfH] using hx))
      simp only [hopv, hh, ← e, Option.map_map]
      rfl
     ·simp only [hopv, Option.map_eq_some_iff, Prod.mk.injEq] at h
      obtain ⟨_, _, _, e⟩ := h
      rw [← e]
   | boxobj n x =>
     refine heapy rfl (fun st' hh hr _ => ?_) (fun u st1 h => ?_)
     ·simp only [hopv, hh, ← hr x (by simp [readsOfH])]
      (repeat' split) <;> rfl
     ·simp only [hopv] at h
      (repeat' split at h) <;> simp at h
      rw [← h.2]
   | zcall k args =>
     refine heapy rfl (fun st' hh hr _ => ?_) (fun u st1 h => ?_)
     ·have e : rdAll st args = rdAll st' args := rdA hr
      simp only [hopv, hh, ← e]
      cases rdAll st args with
      | none => rfl
      | some vs =>
        simp only [Option.bind_some]
        split
        ·cases cf k (frzL st.heap vs) [] with
         | none => rfl
         | some r => simp only [Option.bind_some]; split <;> rfl
        ·rfl
     ·simp only [hopv, Option.bind_eq_some_iff] at h
      obtain ⟨vs, _, h⟩ := h
      split at h
      ·simp only [Option.bind_eq_some_iff] at h
       obtain ⟨r, _, h⟩ := h
       split at h
       ·simp only [Option.some.injEq, Prod.mk.injEq] at h; rw [← h.2]
       ·simp at h
      ·simp at h
   | call k args =>
     refine heapy rfl (fun st' hh hr _ => ?_) (fun u st1 h => ?_)
     ·have e : rdAll st args = rdAll st' args := rdA hr
      simp only [hopv, hh, ← e]
      cases rdAll st args with
      | none => rfl
      | some vs => simp only [Option.bind_some, Option.map_map]; rfl
     ·simp only [hopv, Option.bind_eq_some_iff, Option.map_eq_some_iff, Prod.mk.injEq] at h
      obtain ⟨_, _, _, _, _, e⟩ := h
      rw [← e]
   | rcall k args =>
     refine hpure (fun u st1 h => ?_) (fun st' hh hr _ => ?_)
     ·simp only [hopv, Option.bind_eq_some_iff, same] at h
      obtain ⟨_, _, _, _, e⟩ := h
      split at e
      ·simp only [Option.some.injEq, Prod.mk.injEq] at e; exact e.2.symm
      ·simp at e
     ·have e : rdAll st args = rdAll st' args := rdA hr
      simp only [hopv, hh (by simp [heapOf]), ← e]
      cases rdAll st args with
      | none => rfl
      | some vs =>
        simp only [Option.bind_some]
        cases cf k vs st.heap with
        | none => rfl
        | some r =>
          simp only [Option.bind_some, same, hh (by simp [heapOf])]
          by_cases he : r.2 = st.heap
          ·rw [if_pos he, if_pos he]; rfl
          ·rw [if_neg he, if_neg he]; rfl
   | lcall k args =>
     refine hpure (fun u st1 h => ?_) (fun st' hh hr _ => ?_)
     ·simp only [hopv, lendTo, Option.bind_eq_some_iff] at h
      obtain ⟨_, _, _, _, e⟩ := h
      split at e
      ·simp only [Option.bind_eq_some_iff] at e
       obtain ⟨_, _, e⟩ := e
       split at e
       ·simp only [Option.some.injEq, Prod.mk.injEq] at e; exact e.2.symm
       ·simp at e
      ·simp at e
     ·have e : rdAll st args = rdAll st' args := rdA hr
      simp only [hopv, ← e]
      cases rdAll st args with
      | none => rfl
      | some vs =>
        simp only [Option.bind_some, lendTo, hh (by simp [heapOf])]
        cases frozAll st.heap vs with
        | none => rfl
        | some ws =>
          simp only [Option.bind_some]
          by_cases hw : refFrees ws = true
          ·rw [if_pos hw, if_pos hw]
           cases cf k ws [] with
           | none => rfl
           | some r =>
             simp only [Option.bind_some]
             by_cases he : plainV r.1 = true
             ·rw [if_pos he, if_pos he]; rfl
             ·rw [if_neg he, if_neg he]; rfl
          ·rw [if_neg hw, if_neg hw]; rfl
   | icall tab x args =>
     have key : ∀ st' : St, st'.heap = st.heap → ∀ y, methOf st' tab y = methOf st tab y := by
      intro st' hh y
      unfold methOf
      split
      ·simp only [recvOf, hget, hh]
      ·rfl
     refine heapy rfl (fun st' hh hr _ => ?_) (fun u st1 h => ?_)
     ·have e := rdA (xs := args) (st' := st') (fun y hy => hr y (by simp only [readsOfH]; exact List.mem_cons_of_mem _ hy))
      simp only [hopv, hh, key st' hh, ← hr x (by simp [readsOfH]), ← e]
      cases methOf st tab (rd st x) with
      | none => rfl
      | some m =>
        simp only [Option.bind_some]
        cases rdAll st args with
        | none => rfl
        | some vs => simp only [Option.bind_some, Option.map_map]; rfl
     ·simp only [hopv, Option.bind_eq_some_iff, Option.map_eq_some_iff, Prod.mk.injEq] at h
      obtain ⟨_, _, _, _, _, _, _, e⟩ := h
      rw [← e]
   | bcall k args => simp [opv, hopv] at h
   | bcallv x args => simp [opv, hopv] at h
   | callv x args =>
     refine heapy rfl (fun st' hh hr _ => ?_) (fun u st1 h => ?_)
     ·have e := rdA (xs := args) (st' := st') (fun y hy => hr y (by simp only [readsOfH]; exact List.mem_cons_of_mem _ hy))
      simp only [hopv, hh, ← hr x (by simp [readsOfH]), ← e]
      split
      ·simp only [Option.map_map]; rfl
      ·rfl
     ·simp only [hopv] at h
      split at h
      ·simp only [Option.map_eq_some_iff, Prod.mk.injEq] at h
       obtain ⟨_, _, _, e⟩ := h
       rw [← e]
      ·simp at h
   | iaddr len size x i =>
     refine hpure (fun u st1 h => ?_) (fun st' _ hr ha => ?_)
     ·simp only [hopv] at h
      (repeat' split at h) <;> simp at h
      exact h.2.symm
     ·simp only [hopv, ← ha x (by simp [readsOfH]), ← rdI (hr i (by simp [readsOfH]))]
      (repeat' split) <;> rfl
   | isnil kd neg x =>
     refine hpure (fun u st1 h => ?_) (fun st' _ hr _ => ?_)
     ·simp only [hopv, Option.map_eq_some_iff, Prod.mk.injEq] at h
      obtain ⟨_, _, _, e⟩ := h; exact e.symm
     ·simp only [hopv, ← hr x (by simp [readsOfH]), Option.map_map]; rfl
   | nilchk x =>
     refine hpure (fun u st1 h => ?_) (fun st' _ _ ha => ?_)
     ·simp only [hopv] at h
      (repeat' split at h) <;> simp at h <;> exact h.2.symm
     ·simp only [hopv, ← ha x (by simp [readsOfH])]
      (repeat' split) <;> rfl
   | loadc size agg a =>
     refine hpure (fun u st1 h => ?_) (fun st' _ hr _ => ?_)
     ·simp only [hopv] at h
      split at h
      ·simp only [Option.map_eq_some_iff, Prod.mk.injEq] at h
       obtain ⟨_, _, _, e⟩ := h; exact e.symm
      ·simp at h
     ·simp only [hopv, ← hr a (by simp [readsOfH])]
      split
      ·simp only [Option.map_map]; rfl
      ·rfl
   | barr z ps =>
     refine hpure (fun u st1 h => ?_) (fun st' _ hr _ => ?_)
     ·simp only [hopv, Option.map_eq_some_iff, Prod.mk.injEq] at h
      obtain ⟨_, _, _, e⟩ := h; exact e.symm
     ·have e : ∀ xs : List (Nat × Nat × PX), (∀ x ∈ xs, rd st x.2.2 = rd st' x.2.2) → rdParts st xs = rdParts st' xs := by
       intro xs
       induction xs with
       | nil => intro _; rfl
       | cons x xs ih =>
         obtain ⟨a, b, x⟩ := x
         intro hx
         simp only [PI.rdParts]
         rw [hx (a, b, x) (by simp), ih (fun y hy => hx y (by simp [hy]))]
      simp only [hopv, ← e ps (fun x hx => hr _ (by simp only [readsOfH]; exact List.mem_map_of_mem hx)), Option.map_map]; rfl
   | idxA len size agg x i =>
     refine hpure (fun u st1 h => ?_) (fun st' _ hr _ => ?_)
     ·simp only [hopv] at h
      split at h
      ·split at h
       ·simp only [Option.map_eq_some_iff, Prod.mk.injEq] at h
        obtain ⟨_, _, _, e⟩ := h; exact e.symm
       ·simp at h
      ·simp at h
     ·simp only [hopv, ← hr x (by simp [readsOfH]), ← rdI (hr i (by simp [readsOfH]))]
      split
      ·split
       ·simp only [Option.map_map]; rfl
       ·rfl
      ·rfl
   | mlen m =>
     refine hpure (fun u st1 h => ?_) (fun st' hh hr _ => ?_)
     ·simp only [hopv] at h
      split at h
      ·simp only [Option.map_eq_some_iff, Prod.mk.injEq] at h
       obtain ⟨_, _, _, e⟩ := h; exact e.symm
      ·simp at h
     ·simp only [hopv, ← hr m (by simp [readsOfH]), mget, hh (by simp [heapOf])]
      split
      ·simp only [Option.map_map]; rfl
      ·rfl
   | load size agg a tkn =>
     by_cases htk : tkn = true
     ·subst htk
      refine heapy rfl (fun st' hh _ ha => ?_) (fun u st1 h => ?_)
      ·simp only [hopv, ← ha a (by simp [readsOfH]), hget, hh, hset]
       split
       ·cases loadFrom size agg _ 0 <;> simp <;> rw [← hh]
       ·split
        ·simp only [Option.bind_some]
         split
         ·simp [hh]
         ·cases loadFrom size agg _ _ <;> simp <;> rw [← hh]
        ·rfl
       ·rfl
      ·simp only [hopv] at h
       split at h
       ·simp only [Option.map_eq_some_iff, Prod.mk.injEq] at h
        obtain ⟨_, _, _, e⟩ := h; rw [← e]
       ·simp only [Option.bind_eq_some_iff] at h
        obtain ⟨cs, _, h⟩ := h
        split at h
        ·simp only [Option.some.injEq, Prod.mk.injEq] at h; rw [← h.2]; rfl
        ·simp only [Option.map_eq_some_iff, Prod.mk.injEq] at h
         obtain ⟨_, _, _, e⟩ := h; rw [← e]
       ·simp at h
     ·have htk' : tkn = false := by simpa using htk
      subst htk'
      refine hpure (fun u st1 h => ?_) (fun st' hh _ ha => ?_)
      ·simp only [hopv] at h
       split at h
       ·simp only [Option.map_eq_some_iff, Prod.mk.injEq] at h
        obtain ⟨_, _, _, e⟩ := h; exact e.symm
       ·simp only [Option.bind_eq_some_iff, Bool.false_and] at h
        obtain ⟨cs, _, h⟩ := h
        simp only [Option.map_eq_some_iff, Prod.mk.injEq] at h
        obtain ⟨_, _, _, e⟩ := h; exact e.symm
       ·simp at h
      ·simp only [hopv, ← ha a (by simp [readsOfH]), hget, hh (by simp [heapOf]), Bool.false_and]
       split
       ·simp only [Option.map_map]; rfl
       ·split
        ·simp only [Option.bind_some, Option.map_map]; rfl
        ·rfl
       ·rfl
   | lookup ok tkn kagg ks zero m x =>
     by_cases htk : tkn = true
     ·subst htk
      refine heapy rfl (fun st' hh hr _ => ?_) (fun u st1 h => ?_)
      ·have hmg : ∀ n, mget st' n = mget st n := fun n => by unfold mget; rw [hh]
       simp only [hopv, ← hr m (by simp [readsOfH]), ← hr x (by simp [readsOfH]), hmg, hh, hset]
       split
       ·rename_i n k _ _
        cases mget st n with
        | none => rfl
        | some es =>
          simp only [Option.bind_some]
          cases mfind kagg ks k es 0 with
          | none => rfl
          | some r =>
            cases r with
            | none => simp; rw [← hh]
            | some iv =>
              simp only [Option.bind_some]
              split
              ·simp
              ·simp; rw [← hh]
       ·rfl
      ·simp only [hopv] at h
       split at h
       ·simp only [Option.bind_eq_some_iff] at h
        obtain ⟨es, _, r, _, h⟩ := h
        split at h
        ·split at h
         ·simp only [Option.some.injEq, Prod.mk.injEq] at h; rw [← h.2]; rfl
         ·simp only [Option.some.injEq, Prod.mk.injEq] at h; rw [← h.2]
        ·simp only [Option.some.injEq, Prod.mk.injEq] at h; rw [← h.2]
       ·simp at h
     ·have htk' : tkn = false := by simpa using htk
      subst htk'
      refine hpure (fun u st1 h => ?_) (fun st' hh hr _ => ?_)
      ·simp only [hopv] at h
       split at h
       ·simp only [Option.bind_eq_some_iff, Bool.false_and] at h
        obtain ⟨es, _, r, _, h⟩ := h
        split at h
        ·simp at h; exact h.2.symm
        ·simp at h; exact h.2.symm
       ·simp at h
      ·have hmg : ∀ n, mget st' n = mget st n := fun n => by unfold mget; rw [hh (by simp [heapOf])]
       simp only [hopv, ← hr m (by simp [readsOfH]), ← hr x (by simp [readsOfH]), hmg, Bool.false_and]
       split
       ·rename_i n k _ _
        cases mget st n with
        | none => rfl
        | some es =>
          simp only [Option.bind_some]
          cases mfind kagg ks k es 0 with
          | none => rfl
          | some r => cases r <;> rfl
       ·rfl
 | store size agg a x => simp [memOf] at hm
 | newloc z => simp [memOf] at hm
 | boxloc n x => simp [memOf] at hm
 | sliceLoc n x => simp [memOf] at hm
 | take x =>
   obtain ⟨h1, h2⟩ := tk_dm (st := st) (by simpa [opv] using h)
   refine ⟨.src x, h1, by simp [Fits, takesOf], ?_⟩
   intro st' hs
   simpa [opv] using h2 st' (hs.reads x (hsub x (by simp [readsOf]))) (hs.takes x (by simp [takesOf]))
 | append size bytes s x =>
   simp only [opv] at h
   split at h
   ·rename_i xs es st2 hr ht
    split at h
    ·rename_i hc
     simp only [Option.some.injEq, Prod.mk.injEq] at h
     obtain ⟨rfl, rfl⟩ := h
     obtain ⟨h1, h2⟩ := tk_dm ht
     refine ⟨.src s, h1, by simp [Fits, takesOf], ?_⟩
     intro st' hs
     have ht' := h2 st' (hs.reads s (hsub s (by simp [readsOf]))) (hs.takes s (by simp [takesOf]))
     have hr' : (rd st' x).bind asRow = some xs := by rw [← hs.rd (hsub x (by simp [readsOf]))]; exact hr
     simp only [opv, hr', ht', if_pos hc]
    ·simp at h
   ·simp at h
 | loadv s size agg a =>
   simp only [opv] at h
   split at h
   ·rename_i s' g off hadd
    split at h
    ·rename_i g' cs hv
     split at h
     ·rename_i hc
      obtain ⟨rfl, rfl⟩ := hc
      refine pure (by simp only [Option.map_eq_some_iff, Prod.mk.injEq] at h; obtain ⟨_, _, _, e⟩ := h; exact e.symm) ?_
      intro st' hs
      obtain ⟨cs', h1, h2⟩ := (hs.slot s' rfl).1 g cs hv
      simp only [opv, (hs.addr (hsub a (by simp [readsOf]))).symm, hadd, h1, hv, and_self, if_true]
      rw [← loadFrom_dem h2, Option.map_map]
      rfl
     ·simp at h
    ·simp at h
   ·simp at h
 | load size agg a tkn =>
   simp only [opv] at h
   have ha : ∀ st', Sim (.load size agg a tkn) rs st st' → addr st' a = addr st a := fun st' hs => (hs.addr (hsub a (by simp [readsOf]))).symm
   split at h
   ·rename_i cs hadd
    refine pure (by simp only [Option.map_eq_some_iff, Prod.mk.injEq] at h; obtain ⟨_, _, _, e⟩ := h; exact e.symm) ?_
    intro st' hs
    simp only [opv, ha st' hs, hadd, Option.map_map]
    rfl
   ·rename_i s g off hadd
    split at h
    ·rename_i g' cs hv
     split at h
     ·rename_i hg
      subst hg
      split at h
      ·rename_i es htk hcell
       simp only [Option.some.injEq, Prod.mk.injEq] at h
       obtain ⟨rfl, rfl⟩ := h
       simp only [Bool.and_eq_true, Bool.not_eq_true'] at htk
       have app : ∀ st : St, st.vars[s]? = some (.loc g cs) → { st with vars := st.vars.set s (.loc g (cs.set off (.list false es))) } = (Dm.cell s off).app st := by
        intro st hv
        simp only [Dm.app]
        rw [modify_same hv]
        simp only [demCell]
        rw [modify_same hcell]
        rfl
       refine ⟨.cell s off, app st hv, by simp [Fits, memOf, htk.1], ?_⟩
       intro st' hs
       obtain ⟨cs', h1, _, h3⟩ := hs.mem (by simp [memOf, htk.1]) s g cs hv
       have : cs' = cs := h3 (by simp [memOf, htk.1])
       subst this
       simp only [opv, ha st' hs, hadd, h1, if_true, htk.1, htk.2, Bool.not_false, Bool.and_self, hcell]
       rw [app st' h1]
      ·rename_i hno
       refine pure (by simp only [Option.map_eq_some_iff, Prod.mk.injEq] at h; obtain ⟨_, _, _, e⟩ := h; exact e.symm) ?_
       intro st' hs
       obtain ⟨cs', h1, h2, h3⟩ := hs.mem (by simp [memOf]; split <;> omega) s g cs hv
       simp only [opv, ha st' hs, hadd, h1, hv, if_true]
       have hld := loadFrom_dem (size := size) (agg := agg) (off := off) h2
       cases htkn : tkn with
       | false => simp [htkn, ← hld]; rfl
       | true =>
         have : cs' = cs := h3 (by simp [memOf, htkn])
         subst this
         subst htkn
         split
         ·rename_i es' hb hce
          exact absurd hce (by
           intro hce
           exact hno es' hb hce)
         ·simp; rfl
     ·simp at h
    ·simp at h
   ·simp at h
 | mov x =>
   refine pure (by simp only [opv, Option.map_eq_some_iff, Prod.mk.injEq] at h; obtain ⟨_, _, _, e⟩ := h; exact e.symm) ?_
   intro st' hs
   simp only [opv, ← hs.rd (hsub x (by simp [readsOf])), Option.map_map]; rfl
 | movs x =>
   refine pure (by simp only [opv] at h; split at h <;> simp at h; exact h.2.symm) ?_
   intro st' hs
   simp only [opv, ← hs.rd (hsub x (by simp [readsOf]))]
   split <;> rfl
 | pick c x y =>
   refine pure (by simp only [opv] at h; split at h <;> simp at h; obtain ⟨_, _, _, e⟩ := h; exact e.symm) ?_
   intro st' hs
   simp only [opv, ← hs.rd (hsub c (by simp [readsOf])), ← hs.rd (hsub x (by simp [readsOf])), ← hs.rd (hsub y (by simp [readsOf]))]
   split
   ·rename_i t _
    cases t
    ·simp only [Bool.false_eq_true, if_false, ← hs.rd (hsub y (by simp [readsOf])), Option.map_map]; rfl
    ·simp only [if_true, ← hs.rd (hsub x (by simp [readsOf])), Option.map_map]; rfl
   ·rfl
 | build z ps =>
   refine pure (by simp only [opv, Option.map_eq_some_iff, Prod.mk.injEq] at h; obtain ⟨_, _, _, e⟩ := h; exact e.symm) ?_
   intro st' hs
   simp only [opv, ← hs.rdParts (xs := ps) (fun x hx => hsub _ (by simp only [readsOf]; exact List.mem_map_of_mem hx)), Option.map_map]; rfl
 | mkslice size z len ps =>
   refine pure (by simp only [opv, Option.map_eq_some_iff, Prod.mk.injEq] at h; obtain ⟨_, _, _, e⟩ := h; exact e.symm) ?_
   intro st' hs
   simp only [opv, ← hs.rdElems (xs := ps) (fun x hx => hsub _ (by simp only [readsOf]; exact List.mem_map_of_mem hx)), Option.map_map]; rfl
 | faddr off x =>
   refine pure (by simp only [opv] at h; split at h <;> simp at h <;> exact h.2.symm) ?_
   intro st' hs
   simp only [opv, ← hs.addr (hsub x (by simp [readsOf]))]
   split <;> rfl
 | appstr s x =>
   simp only [opv] at h
   split at h
   ·rename_i xs es st2 hr ht
    split at h
    ·rename_i hc
     simp only [Option.some.injEq, Prod.mk.injEq] at h
     obtain ⟨rfl, rfl⟩ := h
     obtain ⟨h1, h2⟩ := tk_dm ht
     refine ⟨.src s, h1, by simp [Fits, takesOf], ?_⟩
     intro st' hs
     have ht' := h2 st' (hs.reads s (hsub s (by simp [readsOf]))) (hs.takes s (by simp [takesOf]))
     have hr' : rd st' x = some (.str xs) := by rw [← hs.rd (hsub x (by simp [readsOf]))]; exact hr
     simp only [opv, hr', ht', if_pos hc]
    ·simp at h
   ·simp at h
 | b2s x =>
   refine pure (by simp only [opv] at h; split at h <;> simp at h; obtain ⟨_, _, _, e⟩ := h; exact e.symm) ?_
   intro st' hs
   simp only [opv, ← hs.rd (hsub x (by simp [readsOf]))]
   split
   ·simp only [Option.map_map]; rfl
   ·rfl
 | s2b x =>
   refine pure (by simp only [opv] at h; (repeat' split at h) <;> simp at h; exact h.2.symm) ?_
   intro st' hs
   simp only [opv, ← hs.rd (hsub x (by simp [readsOf]))]
   (repeat' split) <;> rfl
 | iaddrS size x i =>
   refine pure (by simp only [opv] at h; (repeat' split at h) <;> simp at h <;> exact h.2.symm) ?_
   intro st' hs
   simp only [opv, ← hs.rd (hsub x (by simp [readsOf])), ← hs.rdInt (hsub i (by simp [readsOf]))]
   (repeat' split) <;> rfl
 | iaddrA len size x i =>
   refine pure (by simp only [opv] at h; (repeat' split at h) <;> simp at h <;> exact h.2.symm) ?_
   intro st' hs
   simp only [opv, ← hs.addr (hsub x (by simp [readsOf])), ← hs.rdInt (hsub i (by simp [readsOf]))]
   (repeat' split) <;> rfl
 | field off size agg x =>
   refine pure (by simp only [opv] at h; split at h <;> simp at h; obtain ⟨_, _, _, e⟩ := h; exact e.symm) ?_
   intro st' hs
   simp only [opv, ← hs.rd (hsub x (by simp [readsOf]))]
   split
   ·simp only [Option.map_map]; rfl
   ·rfl
 | indexStr x i =>
   refine pure (by simp only [opv] at h; (repeat' split at h) <;> simp at h; exact h.2.symm) ?_
   intro st' hs
   simp only [opv, ← hs.rd (hsub x (by simp [readsOf])), ← hs.rdInt (hsub i (by simp [readsOf]))]
   (repeat' split) <;> rfl
 | slice str size x lo hi =>
   have hlo : ∀ y ∈ lo.toList, y ∈ rs := fun y hy => hsub y (by simp only [readsOf, List.mem_cons, List.mem_append]; exact .inr (.inl hy))
   have hhi : ∀ y ∈ hi.toList, y ∈ rs := fun y hy => hsub y (by simp only [readsOf, List.mem_cons, List.mem_append]; exact .inr (.inr hy))
   refine pure (by
    simp only [opv] at h
    split at h
    ·simp only [Option.bind_eq_some_iff, Option.map_eq_some_iff, Prod.mk.injEq] at h
     obtain ⟨_, _, _, _, _, e⟩ := h; exact e.symm
    ·split at h
     ·simp only [Option.bind_eq_some_iff, Option.map_eq_some_iff, Prod.mk.injEq] at h
      obtain ⟨_, _, _, _, _, e⟩ := h; exact e.symm
     ·simp at h
    ·simp only [Option.bind_eq_some_iff, Option.map_eq_some_iff, Prod.mk.injEq] at h
     obtain ⟨_, _, _, _, _, e⟩ := h; exact e.symm
    ·split at h
     ·simp only [Option.bind_eq_some_iff, Option.map_eq_some_iff, Prod.mk.injEq] at h
      obtain ⟨_, _, _, _, _, e⟩ := h; exact e.symm
     ·simp at h
    ·simp at h) ?_
   intro st' hs
   simp only [opv, ← hs.rd (hsub x (by simp [readsOf])), ← hs.bound hlo, ← hs.bound hhi]
   split
   ·simp only [Option.map_bind, Function.comp_def, Option.map_map]
   ·split
    ·simp only [Option.map_bind, Function.comp_def, Option.map_map]
    ·rfl
   ·simp only [Option.map_bind, Function.comp_def, Option.map_map]
   ·split
    ·simp only [Option.map_bind, Function.comp_def, Option.map_map]
    ·rfl
   ·rfl
 | bin op x y =>
   refine pure (by simp only [opv] at h; split at h <;> simp at h; obtain ⟨_, _, _, e⟩ := h; exact e.symm) ?_
   intro st' hs
   simp only [opv, ← hs.rd (hsub x (by simp [readsOf])), ← hs.rd (hsub y (by simp [readsOf]))]
   split
   ·simp only [Option.map_map]; rfl
   ·rfl
 | eq neg agg ks x y =>
   refine pure (by
    simp only [opv] at h
    split at h
    ·simp only [Option.map_eq_some_iff, Prod.mk.injEq] at h
     obtain ⟨_, _, _, e⟩ := h; exact e.symm
    ·simp at h) ?_
   intro st' hs
   simp only [opv, ← hs.rd (hsub x (by simp [readsOf])), ← hs.rd (hsub y (by simp [readsOf]))]
   split
   ·simp only [Option.map_map]; rfl
   ·rfl
 | un op x =>
   refine pure (by simp only [opv] at h; split at h <;> simp at h; obtain ⟨_, _, _, e⟩ := h; exact e.symm) ?_
   intro st' hs
   simp only [opv, ← hs.rd (hsub x (by simp [readsOf]))]
   split
   ·simp only [Option.map_map]; rfl
   ·rfl
 | convInt k x =>
   refine pure (by simp only [opv, Option.map_eq_some_iff, Prod.mk.injEq] at h; obtain ⟨_, _, _, e⟩ := h; exact e.symm) ?_
   intro st' hs
   simp only [opv, ← hs.rdInt (hsub x (by simp [readsOf])), Option.map_map]; rfl
 | ifc mk t x =>
   refine pure (by
    simp only [opv] at h
    split at h
    ·simp only [Option.some.injEq, Prod.mk.injEq] at h; exact h.2.symm
    ·split at h
     ·simp only [Option.some.injEq, Prod.mk.injEq] at h; exact h.2.symm
     ·simp at h
    ·simp at h) ?_
   intro st' hs
   simp only [opv, ← hs.rd (hsub x (by simp [readsOf]))]
   cases mk <;> cases rd st x with
   | none => rfl
   | some v =>
     first
     | rfl
     | (cases v <;> first | rfl | (simp only; split <;> rfl))
 | extract i x =>
   refine pure (by
    simp only [opv] at h
    split at h
    ·simp only [Option.map_eq_some_iff, Prod.mk.injEq] at h
     obtain ⟨_, _, _, e⟩ := h; exact e.symm
    ·simp at h) ?_
   intro st' hs
   simp only [opv, ← hs.rd (hsub x (by simp [readsOf]))]
   split
   ·simp only [Option.map_map]; rfl
   ·rfl
 | len str x =>
   refine pure (by simp only [opv] at h; split at h <;> simp at h <;> exact h.2.symm) ?_
   intro st' hs
   simp only [opv, ← hs.rd (hsub x (by simp [readsOf]))]
   split <;> rfl
 | cap x =>
   refine pure (by simp only [opv] at h; split at h <;> simp at h <;> exact h.2.symm) ?_
   intro st' hs
   simp only [opv, ← hs.rd (hsub x (by simp [readsOf]))]
   split <;> rfl
 | minmax mx xs =>
   refine pure (by simp only [opv] at h; split at h <;> simp at h; obtain ⟨_, _, _, e⟩ := h; exact e.symm) ?_
   intro st' hs
   simp only [opv, ← hs.rdAll (xs := xs) (fun x hx => hsub x (by simpa [readsOf] using hx))]
   split
   ·simp only [Option.map_map]; rfl
   ·rfl
 | pcall k xs =>
   refine pure (by simp only [opv] at h; (repeat' split at h) <;> simp at h; exact h.2.symm) ?_
   intro st' hs
   simp only [opv, ← hs.rdAll (xs := xs) (fun x hx => hsub x (by simpa [readsOf] using hx))]
   (repeat' split) <;> rfl
 | pzcall k xs =>
   refine pure (by simp only [opv] at h; (repeat' split at h) <;> simp at h; exact h.2.symm) ?_
   intro st' hs
   simp only [opv, ← hs.rdAll (xs := xs) (fun x hx => hsub x (by simpa [readsOf] using hx))]
   (repeat' split) <;> rfl
 | pcallx k xs own =>
   cases own with
   | none =>
     refine pure (by simp only [opv] at h; (repeat' split at h) <;> simp at h; exact h.2.symm) ?_
     intro st' hs
     simp only [opv, ← hs.rdAll (xs := xs) (fun x hx => hsub x (by simpa [readsOf] using hx))]
     (repeat' split) <;> rfl
   | some i =>
     simp only [opv] at h
     split at h
     ·rename_i v st2 us ht hus
      split at h
      ·rename_i hcond
       split at h
       ·rename_i r h' hc
        split at h
        ·rename_i hr
         simp only [Option.some.injEq, Prod.mk.injEq] at h
         obtain ⟨rfl, rfl⟩ := h
         simp only [Option.bind_eq_some_iff] at ht
         obtain ⟨x, hx, ht⟩ := ht
         have hxm : x ∈ xs := List.mem_of_getElem? hx
         obtain ⟨h1, h2⟩ := tk_dm ht
         refine ⟨.src x, h1, by simp [Fits, takesOf, hx], ?_⟩
         intro st' hs
         have ht' := h2 st' (hs.reads x (hsub x (by simpa [readsOf] using hxm))) (hs.takes x (by simp [takesOf, hx]))
         simp only [opv, hx, Option.bind_some, ht', ← hs.rdAll (xs := xs) (fun x hx => hsub x (by simpa [readsOf] using hx)), hus, if_pos hcond, hc, if_pos hr]
        ·simp at h
       ·simp at h
      ·simp at h
     ·simp at h
 | callv x xs =>
   refine pure (by simp only [opv] at h; (repeat' split at h) <;> simp at h; exact h.2.symm) ?_
   intro st' hs
   simp only [opv, ← hs.rd (hsub x (by simp [readsOf])), ← hs.rdAll (xs := xs) (fun y hy => hsub y (by simp only [readsOf]; exact List.mem_cons_of_mem _ hy))]
   (repeat' split) <;> rfl
end
end PI
