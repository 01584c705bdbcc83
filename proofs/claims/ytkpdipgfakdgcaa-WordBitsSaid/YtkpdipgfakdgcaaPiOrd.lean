/-
  Two operations of a region that touch different things may change places.
-/
import Derived.Test.YtkpdipgfakdgcaaPiComp
set_option linter.unusedSimpArgs false
set_option linter.unusedVariables false
namespace PI

def memOf : POp → Nat
  | .load _ _ _ tk => if tk then 3 else 1
  | .store .. | .newloc _ | .boxloc .. | .sliceLoc .. => 2
  | _ => 0

def takesOf : POp → List PX
  | .take x => [x]
  | .append _ _ s _ => [s]
  | _ => []

def sameX : PX → PX → Bool
  | .v i, .v j => i == j
  | .l i, .l j => i == j
  | _, _ => false

def isX (d : PD) (j : Nat) (x : PX) : Bool :=
  match d with
  | .v i => sameX (.v i) x
  | .l => sameX (.l j) x
  | .n => false

def readsG (p : PO) : List PX := (match p.guard with | some (x, _) => [x] | none => []) ++ readsOf p.op

def isV : PD → Bool
  | .v _ => true
  | _ => false

/-- What p writes, q does not look at. -/
def apart (j : Nat) (p q : PO) : Bool := (readsG q).all (fun x => !isX p.dst j x) && (!isV p.dst || memOf q.op == 0)

def sameD (d d' : PD) : Bool :=
  match d, d' with
  | .v i, .v j => i == j
  | _, _ => false

def comm (jp : Nat) (p : PO) (jq : Nat) (q : PO) : Bool :=
  memOf p.op != 2 && memOf q.op != 2 && !(memOf p.op == 3 && memOf q.op == 3) && apart jp p q && apart jq q p && !sameD p.dst q.dst && (takesOf p.op).all (fun x => !(takesOf q.op).any (sameX x))

/-- What a reader sees of a place. -/
def vw : PV → PV
  | .list _ es => .list false es
  | .loc g _ => .loc g []
  | v => v

theorem cp_vw (v : PV) : cp v = cp (vw v) := by cases v <;> rfl

inductive Dm where
  | none
  | src (x : PX)
  | cell (s off : Nat)

def demCell (off : Nat) : PV → PV
  | .loc g cs => .loc g (cs.modify off dem)
  | v => v

def Dm.app : Dm → St → St
  | .none, st => st
  | .src (.v i), st => { st with vars := st.vars.modify i dem }
  | .src (.l j), st => { st with locs := st.locs.modify j dem }
  | .src (.c _), st => st
  | .cell s off, st => { st with vars := st.vars.modify s (demCell off) }

def LocEq (exact : Bool) (st st' : St) : Prop :=
  ∀ (s g : Nat) (cs : List PV), st.vars[s]? = some (.loc g cs) → ∃ cs', st'.vars[s]? = some (.loc g cs') ∧ cs'.map dem = cs.map dem ∧ (exact = true → cs' = cs)

/-- What an operation sees is the same. -/
structure Sim (o : POp) (rs : List PX) (st st' : St) : Prop where
  reads : ∀ x ∈ rs, (raw st x).map vw = (raw st' x).map vw
  takes : ∀ x ∈ takesOf o, ∀ es, raw st x = some (.list true es) ↔ raw st' x = some (.list true es)
  mem : 1 ≤ memOf o → LocEq (memOf o == 3) st st'

section
variable {o : POp} {rs : List PX} {st st' : St}

theorem Sim.rd (h : Sim o rs st st') {x : PX} (hx : x ∈ rs) : rd st x = rd st' x := by
  have := h.reads x hx
  unfold PI.rd
  cases h1 : raw st x <;> cases h2 : raw st' x <;> simp [h1, h2] at this ⊢
  rw [cp_vw, this, ← cp_vw]

theorem Sim.rdInt (h : Sim o rs st st') {x : PX} (hx : x ∈ rs) : rdInt st x = rdInt st' x := by
  unfold PI.rdInt; rw [h.rd hx]

def addrOf (x : PX) (r : Option PV) : Option PV :=
  match x, r with
  | .v i, some (.loc g _) => some (.lptr i g 0)
  | _, some (.lptr s g off) => some (.lptr s g off)
  | _, some v => cp v
  | _, none => none

theorem addr_eq (st : St) (x : PX) : addr st x = addrOf x (raw st x) := rfl

theorem addrOf_vw (x : PX) (v : PV) : addrOf x (some v) = addrOf x (some (vw v)) := by
  cases v <;> cases x <;> rfl

theorem Sim.addr (h : Sim o rs st st') {x : PX} (hx : x ∈ rs) : addr st x = addr st' x := by
  have := h.reads x hx
  rw [addr_eq, addr_eq]
  cases h1 : raw st x <;> cases h2 : raw st' x <;> simp [h1, h2] at this ⊢
  rw [addrOf_vw, this, ← addrOf_vw]

theorem Sim.rdAll (h : Sim o rs st st') : ∀ {xs : List PX}, (∀ x ∈ xs, x ∈ rs) → rdAll st xs = rdAll st' xs
  | [], _ => rfl
  | x :: xs, hx => by
    simp only [PI.rdAll]
    rw [h.rd (hx x (by simp)), h.rdAll (xs := xs) (fun y hy => hx y (by simp [hy]))]

theorem Sim.rdParts (h : Sim o rs st st') : ∀ {xs : List (Nat × Nat × PX)}, (∀ x ∈ xs, x.2.2 ∈ rs) → rdParts st xs = rdParts st' xs
  | [], _ => rfl
  | (a, b, x) :: xs, hx => by
    simp only [PI.rdParts]
    rw [h.rd (hx (a, b, x) (by simp)), h.rdParts (xs := xs) (fun y hy => hx y (by simp [hy]))]

theorem Sim.rdElems (h : Sim o rs st st') : ∀ {xs : List (Nat × PX)}, (∀ x ∈ xs, x.2 ∈ rs) → rdElems st xs = rdElems st' xs
  | [], _ => rfl
  | (a, x) :: xs, hx => by
    simp only [PI.rdElems]
    rw [h.rd (hx (a, x) (by simp)), h.rdElems (xs := xs) (fun y hy => hx y (by simp [hy]))]

theorem Sim.bound (h : Sim o rs st st') {x : Option PX} (hx : ∀ y ∈ x.toList, y ∈ rs) (d m : Nat) : bound st x d m = bound st' x d m := by
  cases x with
  | none => rfl
  | some y => simp only [PI.bound]; rw [h.rdInt (hx y (by simp))]

theorem modify_same {l : List PV} {i : Nat} {v : PV} (h : l[i]? = some v) (f : PV → PV) : l.modify i f = l.set i (f v) := by
  apply List.ext_getElem?
  intro k
  rw [List.getElem?_modify, List.getElem?_set]
  by_cases hk : i = k
  · subst hk
    obtain ⟨hlt, rfl⟩ := List.getElem?_eq_some_iff.1 h
    simp [hlt]
  · simp [hk]

theorem modify_id {l : List PV} {i : Nat} {f : PV → PV} (h : ∀ v, l[i]? = some v → f v = v) : l.modify i f = l := by
  apply List.ext_getElem?
  intro k
  rw [List.getElem?_modify]
  by_cases hk : i = k
  · subst hk
    cases hv : l[i]? with
    | none => simp
    | some v => simp [h v hv]
  · simp [hk]

/-- Taking, as a change of marks. -/
theorem tk_dm {x : PX} {u : PV} {st1 : St} (h : tk st x = some (u, st1)) : st1 = (Dm.src x).app st ∧ ∀ st', (raw st x).map vw = (raw st' x).map vw → (∀ es, raw st x = some (.list true es) ↔ raw st' x = some (.list true es)) → tk st' x = some (u, (Dm.src x).app st') := by
  have app_own : ∀ (st : St) (es : List PV), raw st x = some (.list true es) → setSrc st x (.list false es) = (Dm.src x).app st := by
    intro st es hr
    cases x with
    | v i => simp only [setSrc, Dm.app]; rw [modify_same hr]; rfl
    | l i => simp only [setSrc, Dm.app]; rw [modify_same hr]; rfl
    | c p => rfl
  have app_id : ∀ (st : St), (∀ v, raw st x = some v → dem v = v) → (Dm.src x).app st = st := by
    intro st hv
    cases x with
    | v i => simp only [Dm.app]; rw [modify_id hv]
    | l i => simp only [Dm.app]; rw [modify_id hv]
    | c p => rfl
  have dem_id : ∀ v : PV, (∀ es, v ≠ .list true es) → dem v = v := by
    intro v hv
    cases v <;> try rfl
    rename_i own es
    cases own with
    | true => exact absurd rfl (hv es)
    | false => rfl
  unfold tk at h
  split at h
  · rename_i es hr
    simp only [Option.some.injEq, Prod.mk.injEq] at h
    obtain ⟨rfl, rfl⟩ := h
    refine ⟨app_own st es hr, ?_⟩
    intro st' _ h2
    have hr' := (h2 es).1 hr
    unfold tk
    rw [hr']
    simp only [Option.some.injEq, Prod.mk.injEq, true_and]
    exact app_own st' es hr'
  · rename_i v hnot hr
    simp only [Option.map_eq_some_iff, Prod.mk.injEq] at h
    obtain ⟨r, hr2, rfl, rfl⟩ := h
    refine ⟨(app_id _ (fun v' hv' => by rw [hr] at hv'; simp at hv'; subst hv'; exact dem_id _ hnot)).symm, ?_⟩
    intro st' h1 h2
    have hnot' : ∀ es, raw st' x ≠ some (.list true es) := fun es e => by
      have := (h2 es).2 e
      rw [hr] at this; simp at this; exact hnot es this
    cases hv : raw st' x with
    | none => rw [hr, hv] at h1; simp at h1
    | some v' =>
      have hvw : vw v = vw v' := by rw [hr, hv] at h1; simpa using h1
      have hcp : cp v' = some r := by rw [cp_vw, ← hvw, ← cp_vw]; exact hr2
      have hne : ∀ es, v' ≠ .list true es := fun es e => hnot' es (by rw [hv, e])
      have hid := app_id st' (fun v2 hv2 => by rw [hv] at hv2; simp at hv2; subst hv2; exact dem_id _ hne)
      unfold tk
      rw [hv]
      split
      · rename_i es he; simp at he; exact absurd he (hne es)
      · rename_i v2 _ he
        simp at he; subst he
        simp [hcp, hid]
      · rename_i he; simp at he
  · simp at h

theorem loadFrom_dem {size : Nat} {agg : Bool} {cs cs' : List PV} {off : Nat} (h : cs'.map dem = cs.map dem) : loadFrom size agg cs off = loadFrom size agg cs' off := by
  have hl : cs'.length = cs.length := by simpa using congrArg List.length h
  unfold loadFrom
  rw [hl]
  split
  · split
    · congr 2
      have := congrArg (fun l => (l.drop off).take size) h
      simpa using this.symm
    · rfl
  · have hg : (cs[off]?).map dem = (cs'[off]?).map dem := by
      have := congrArg (fun l => l[off]?) h
      simpa using this.symm
    cases h1 : cs[off]? with
    | none => cases h2 : cs'[off]? with
      | none => rfl
      | some v => rw [h1, h2] at hg; simp at hg
    | some v => cases h2 : cs'[off]? with
      | none => rw [h1, h2] at hg; simp at hg
      | some v' =>
        rw [h1, h2] at hg
        simp at hg
        have : ∀ x, cp x = cp (dem x) := fun x => by cases x <;> rfl
        simp only
        rw [this v, hg, ← this v']

def Fits (o : POp) (d : Dm) : Prop :=
  match d with
  | .none => True
  | .src x => x ∈ takesOf o
  | .cell _ _ => memOf o = 3

/-- An operation as a value and a change of marks. -/
theorem opv_dm {cf : CallF} {u : PV} {st1 : St} (hm : memOf o ≠ 2) (hsub : ∀ x ∈ readsOf o, x ∈ rs) (h : opv cf o st = some (u, st1)) :
    ∃ d : Dm, st1 = d.app st ∧ Fits o d ∧ ∀ st', Sim o rs st st' → opv cf o st' = some (u, d.app st') := by
  have pure : st1 = st → (∀ st', Sim o rs st st' → opv cf o st' = (opv cf o st).map fun r => (r.1, st')) → ∃ d : Dm, st1 = d.app st ∧ Fits o d ∧ ∀ st', Sim o rs st st' → opv cf o st' = some (u, d.app st') := by
    intro e hs
    refine ⟨.none, e, trivial, ?_⟩
    intro st' hsim
    rw [hs st' hsim, h]; rfl
  cases o with
  | store size agg a x => simp [memOf] at hm
  | newloc z => simp [memOf] at hm
  | boxloc n x => simp [memOf] at hm
  | sliceLoc n x => simp [memOf] at hm
  | take x =>
    obtain ⟨h1, h2⟩ := tk_dm (st := st) (by simpa [opv] using h)
    refine ⟨.src x, h1, by simp [Fits, takesOf], ?_⟩
    intro st' hs
    simpa [opv] using h2 st' (hs.reads x (hsub x (by simp [readsOf]))) (hs.takes x (by simp [takesOf]))
  | append size bytes s x =>
    simp only [opv] at h
    split at h
    · rename_i own xs es st2 hr ht
      split at h
      · rename_i hc
        simp only [Option.some.injEq, Prod.mk.injEq] at h
        obtain ⟨rfl, rfl⟩ := h
        obtain ⟨h1, h2⟩ := tk_dm ht
        refine ⟨.src s, h1, by simp [Fits, takesOf], ?_⟩
        intro st' hs
        have ht' := h2 st' (hs.reads s (hsub s (by simp [readsOf]))) (hs.takes s (by simp [takesOf]))
        have hr' : rd st' x = some (.list own xs) := by rw [← hs.rd (hsub x (by simp [readsOf]))]; exact hr
        simp only [opv, hr', ht', if_pos hc]
      · simp at h
    · simp at h
  | load size agg a tkn =>
    simp only [opv] at h
    have ha : ∀ st', Sim (.load size agg a tkn) rs st st' → addr st' a = addr st a := fun st' hs => (hs.addr (hsub a (by simp [readsOf]))).symm
    split at h
    · rename_i cs hadd
      refine pure (by simp only [Option.map_eq_some_iff, Prod.mk.injEq] at h; obtain ⟨_, _, _, e⟩ := h; exact e.symm) ?_
      intro st' hs
      simp only [opv, ha st' hs, hadd, Option.map_map]
      rfl
    · rename_i s g off hadd
      split at h
      · rename_i g' cs hv
        split at h
        · rename_i hg
          subst hg
          split at h
          · rename_i es htk hcell
            simp only [Option.some.injEq, Prod.mk.injEq] at h
            obtain ⟨rfl, rfl⟩ := h
            simp only [Bool.and_eq_true, Bool.not_eq_true'] at htk
            have app : ∀ st : St, st.vars[s]? = some (.loc g cs) → { st with vars := st.vars.set s (.loc g (cs.set off (.list false es))) } = (Dm.cell s off).app st := by
              intro st hv
              simp only [Dm.app]
              rw [modify_same hv]
              simp only [demCell]
              rw [modify_same hcell]
              rfl
            refine ⟨.cell s off, app st hv, by simp [Fits, memOf, htk.1], ?_⟩
            intro st' hs
            obtain ⟨cs', h1, _, h3⟩ := hs.mem (by simp [memOf, htk.1]) s g cs hv
            have : cs' = cs := h3 (by simp [memOf, htk.1])
            subst this
            simp only [opv, ha st' hs, hadd, h1, if_true, htk.1, htk.2, Bool.not_false, Bool.and_self, hcell]
            rw [app st' h1]
          · rename_i hno
            refine pure (by simp only [Option.map_eq_some_iff, Prod.mk.injEq] at h; obtain ⟨_, _, _, e⟩ := h; exact e.symm) ?_
            intro st' hs
            obtain ⟨cs', h1, h2, h3⟩ := hs.mem (by simp [memOf]; split <;> omega) s g cs hv
            simp only [opv, ha st' hs, hadd, h1, hv, if_true]
            have hld := loadFrom_dem (size := size) (agg := agg) (off := off) h2
            cases htkn : tkn with
            | false => simp [htkn, ← hld]; rfl
            | true =>
              have : cs' = cs := h3 (by simp [memOf, htkn])
              subst this
              subst htkn
              split
              · rename_i es' hb hce
                exact absurd hce (by
                  intro hce
                  exact hno es' hb hce)
              · simp; rfl
        · simp at h
      · simp at h
    · simp at h
  | mov x =>
    refine pure (by simp only [opv, Option.map_eq_some_iff, Prod.mk.injEq] at h; obtain ⟨_, _, _, e⟩ := h; exact e.symm) ?_
    intro st' hs
    simp only [opv, ← hs.rd (hsub x (by simp [readsOf])), Option.map_map]; rfl
  | movs x =>
    refine pure (by simp only [opv] at h; split at h <;> simp at h; exact h.2.symm) ?_
    intro st' hs
    simp only [opv, ← hs.rd (hsub x (by simp [readsOf]))]
    split <;> rfl
  | pick c x y =>
    refine pure (by simp only [opv] at h; split at h <;> simp at h; obtain ⟨_, _, _, e⟩ := h; exact e.symm) ?_
    intro st' hs
    simp only [opv, ← hs.rd (hsub c (by simp [readsOf])), ← hs.rd (hsub x (by simp [readsOf])), ← hs.rd (hsub y (by simp [readsOf]))]
    split
    · rename_i t _
      cases t
      · simp only [Bool.false_eq_true, if_false, ← hs.rd (hsub y (by simp [readsOf])), Option.map_map]; rfl
      · simp only [if_true, ← hs.rd (hsub x (by simp [readsOf])), Option.map_map]; rfl
    · rfl
  | build z ps =>
    refine pure (by simp only [opv, Option.map_eq_some_iff, Prod.mk.injEq] at h; obtain ⟨_, _, _, e⟩ := h; exact e.symm) ?_
    intro st' hs
    simp only [opv, ← hs.rdParts (xs := ps) (fun x hx => hsub _ (by simp only [readsOf]; exact List.mem_map_of_mem hx)), Option.map_map]; rfl
  | mkslice size z len ps =>
    refine pure (by simp only [opv, Option.map_eq_some_iff, Prod.mk.injEq] at h; obtain ⟨_, _, _, e⟩ := h; exact e.symm) ?_
    intro st' hs
    simp only [opv, ← hs.rdElems (xs := ps) (fun x hx => hsub _ (by simp only [readsOf]; exact List.mem_map_of_mem hx)), Option.map_map]; rfl
  | faddr off x =>
    refine pure (by simp only [opv] at h; split at h <;> simp at h <;> exact h.2.symm) ?_
    intro st' hs
    simp only [opv, ← hs.addr (hsub x (by simp [readsOf]))]
    split <;> rfl
  | iaddrS size x i =>
    refine pure (by simp only [opv] at h; (repeat' split at h) <;> simp at h; exact h.2.symm) ?_
    intro st' hs
    simp only [opv, ← hs.rd (hsub x (by simp [readsOf])), ← hs.rdInt (hsub i (by simp [readsOf]))]
    (repeat' split) <;> rfl
  | iaddrA len size x i =>
    refine pure (by simp only [opv] at h; (repeat' split at h) <;> simp at h <;> exact h.2.symm) ?_
    intro st' hs
    simp only [opv, ← hs.addr (hsub x (by simp [readsOf])), ← hs.rdInt (hsub i (by simp [readsOf]))]
    (repeat' split) <;> rfl
  | field off size agg x =>
    refine pure (by simp only [opv] at h; split at h <;> simp at h; obtain ⟨_, _, _, e⟩ := h; exact e.symm) ?_
    intro st' hs
    simp only [opv, ← hs.rd (hsub x (by simp [readsOf]))]
    split
    · simp only [Option.map_map]; rfl
    · rfl
  | indexStr x i =>
    refine pure (by simp only [opv] at h; (repeat' split at h) <;> simp at h; exact h.2.symm) ?_
    intro st' hs
    simp only [opv, ← hs.rd (hsub x (by simp [readsOf])), ← hs.rdInt (hsub i (by simp [readsOf]))]
    (repeat' split) <;> rfl
  | slice str size x lo hi =>
    have hlo : ∀ y ∈ lo.toList, y ∈ rs := fun y hy => hsub y (by simp only [readsOf, List.mem_cons, List.mem_append]; exact .inr (.inl hy))
    have hhi : ∀ y ∈ hi.toList, y ∈ rs := fun y hy => hsub y (by simp only [readsOf, List.mem_cons, List.mem_append]; exact .inr (.inr hy))
    refine pure (by
      simp only [opv] at h
      split at h
      · simp only [Option.bind_eq_some_iff, Option.map_eq_some_iff, Prod.mk.injEq] at h
        obtain ⟨_, _, _, _, _, e⟩ := h; exact e.symm
      · split at h
        · simp only [Option.bind_eq_some_iff, Option.map_eq_some_iff, Prod.mk.injEq] at h
          obtain ⟨_, _, _, _, _, e⟩ := h; exact e.symm
        · simp at h
      · simp at h) ?_
    intro st' hs
    simp only [opv, ← hs.rd (hsub x (by simp [readsOf])), ← hs.bound hlo, ← hs.bound hhi]
    split
    · simp only [Option.map_bind, Function.comp_def, Option.map_map]
    · split
      · simp only [Option.map_bind, Function.comp_def, Option.map_map]
      · rfl
    · rfl
  | bin op x y =>
    refine pure (by simp only [opv] at h; split at h <;> simp at h; obtain ⟨_, _, _, e⟩ := h; exact e.symm) ?_
    intro st' hs
    simp only [opv, ← hs.rd (hsub x (by simp [readsOf])), ← hs.rd (hsub y (by simp [readsOf]))]
    split
    · simp only [Option.map_map]; rfl
    · rfl
  | eq neg agg ks x y =>
    refine pure (by
      simp only [opv] at h
      split at h
      · simp only [Option.map_eq_some_iff, Prod.mk.injEq] at h
        obtain ⟨_, _, _, e⟩ := h; exact e.symm
      · simp at h) ?_
    intro st' hs
    simp only [opv, ← hs.rd (hsub x (by simp [readsOf])), ← hs.rd (hsub y (by simp [readsOf]))]
    split
    · simp only [Option.map_map]; rfl
    · rfl
  | un op x =>
    refine pure (by simp only [opv] at h; split at h <;> simp at h; obtain ⟨_, _, _, e⟩ := h; exact e.symm) ?_
    intro st' hs
    simp only [opv, ← hs.rd (hsub x (by simp [readsOf]))]
    split
    · simp only [Option.map_map]; rfl
    · rfl
  | convInt k x =>
    refine pure (by simp only [opv, Option.map_eq_some_iff, Prod.mk.injEq] at h; obtain ⟨_, _, _, e⟩ := h; exact e.symm) ?_
    intro st' hs
    simp only [opv, ← hs.rdInt (hsub x (by simp [readsOf])), Option.map_map]; rfl
  | extract i x =>
    refine pure (by
      simp only [opv] at h
      split at h
      · simp only [Option.map_eq_some_iff, Prod.mk.injEq] at h
        obtain ⟨_, _, _, e⟩ := h; exact e.symm
      · simp at h) ?_
    intro st' hs
    simp only [opv, ← hs.rd (hsub x (by simp [readsOf]))]
    split
    · simp only [Option.map_map]; rfl
    · rfl
  | len str x =>
    refine pure (by simp only [opv] at h; split at h <;> simp at h <;> exact h.2.symm) ?_
    intro st' hs
    simp only [opv, ← hs.rd (hsub x (by simp [readsOf]))]
    split <;> rfl
  | minmax mx xs =>
    refine pure (by simp only [opv] at h; split at h <;> simp at h; obtain ⟨_, _, _, e⟩ := h; exact e.symm) ?_
    intro st' hs
    simp only [opv, ← hs.rdAll (xs := xs) (fun x hx => hsub x (by simpa [readsOf] using hx))]
    split
    · simp only [Option.map_map]; rfl
    · rfl
  | pcall k xs =>
    refine pure (by simp only [opv] at h; (repeat' split at h) <;> simp at h; exact h.2.symm) ?_
    intro st' hs
    simp only [opv, ← hs.rdAll (xs := xs) (fun x hx => hsub x (by simpa [readsOf] using hx))]
    (repeat' split) <;> rfl
  | callv x xs =>
    refine pure (by simp only [opv] at h; (repeat' split at h) <;> simp at h; exact h.2.symm) ?_
    intro st' hs
    simp only [opv, ← hs.rd (hsub x (by simp [readsOf])), ← hs.rdAll (xs := xs) (fun y hy => hsub y (by simp only [readsOf]; exact List.mem_cons_of_mem _ hy))]
    (repeat' split) <;> rfl

end
end PI
