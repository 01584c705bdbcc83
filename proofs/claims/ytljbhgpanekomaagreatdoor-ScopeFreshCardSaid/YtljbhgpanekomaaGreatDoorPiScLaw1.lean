import Derived.Test.YtljbhgpanekomaaGreatDoorPiScSpec2
import Derived.Test.YtljbhgpanekomaaGreatDoorPiScRun1
set_option linter.unusedSimpArgs false
set_option linter.unusedVariables false
namespace PI.Sc
open Go (IntKind BinOp UnOp)
theorem nodup_app {α : Type} {a b : List α} : (a ++ b).Nodup ↔ a.Nodup ∧ b.Nodup ∧ ∀ x ∈ b, x ∉ a := by
 rw [List.nodup_append]
 constructor
 ·rintro ⟨h1, h2, h3⟩; exact ⟨h1, h2, fun x hx hy => h3 x hy x hx rfl⟩
 ·rintro ⟨h1, h2, h3⟩; exact ⟨h1, h2, fun x hx y hy e => h3 y hy (e ▸ hx)⟩
theorem mem_without {l o : List Str} {x : Str} : x ∈ without l o ↔ x ∈ l ∧ x ∉ o := by simp [without]
theorem without_app (a b o : List Str) : without (a ++ b) o = without a o ++ without b o := by simp [without]
theorem without_self {l o : List Str} (h : ∀ x ∈ l, x ∉ o) : without l o = l := by
 unfold without
 rw [List.filter_eq_self]
 intro x hx; simp [h x hx]
theorem without_none {l o : List Str} : without l o = [] ↔ ∀ x ∈ l, x ∈ o := by
 unfold without
 rw [List.filter_eq_nil_iff]
 constructor
 ·intro h x hx; have := h x hx; simpa using this
 ·intro h x hx; simp [h x hx]
theorem without_back {d y : List Str} (h : ∀ x ∈ y, x ∉ d) : without (d ++ y) d = y := by
 rw [without_app, without_none.2 (fun x hx => hx), without_self h]; rfl
theorem nodup_without {l o : List Str} (h : l.Nodup) : (without l o).Nodup := h.filter _
theorem putAll_new : ∀ (m l : List Str), m.Nodup → (∀ x ∈ m, x ∉ l) → putAll l m = l ++ m
 | [], l, _, _ => by simp [putAll]
 | x :: m, l, hn, h => by
   have hx := h x (by simp)
   rw [List.nodup_cons] at hn
   unfold putAll
   rw [List.foldl_cons, if_neg hx]
   have := putAll_new m (l ++ [x]) hn.2 (by
    intro y hy hm
    rcases List.mem_append.1 hm with h1 | h1
    ·exact h y (by simp [hy]) h1
    ·simp only [List.mem_singleton] at h1; subst h1; exact hn.1 hy)
   unfold putAll at this
   rw [this]; simp
theorem bindE_eq {a : EN} {f : List Str → EN} {r : List Str} : bindE a f = (0, r) ↔ a.1 = 0 ∧ f a.2 = (0, r) := by
 unfold bindE
 by_cases h : a.1 = 0
 ·simp [h]
 ·simp only [h, if_false, false_and, iff_false]
  intro e; exact h (by simpa using congrArg Prod.fst e)
theorem en_eta {a : EN} (h : a.1 = 0) : a = (0, a.2) := by rw [← h]
def Defs (s : Place) (d xs : List Str) : Prop := (∀ x ∈ xs, x ∈ s.vis ∧ x ∉ s.inputs ∧ x ∉ d) ∧ xs.Nodup
theorem Defs.nil (s : Place) (d : List Str) : Defs s d [] := ⟨by simp, by simp⟩
theorem Defs.app {s : Place} {d a b : List Str} : Defs s d (a ++ b) ↔ Defs s d a ∧ Defs s (d ++ a) b := by
 unfold Defs
 rw [nodup_app]
 constructor
 ·rintro ⟨h1, h2, h3, h4⟩
  refine ⟨⟨fun x hx => h1 x (by simp [hx]), h2⟩, fun x hx => ?_, h3⟩
  have := h1 x (by simp [hx])
  have h5 := h4 x hx
  exact ⟨this.1, this.2.1, by simp [this.2.2, h5]⟩
 ·rintro ⟨⟨h1, h2⟩, h3, h4⟩
  refine ⟨fun x hx => ?_, h2, h4, fun x hx => ?_⟩
  ·rcases List.mem_append.1 hx with h | h
   ·exact h1 x h
   ·have := h3 x h
    exact ⟨this.1, this.2.1, fun hd => this.2.2 (by simp [hd])⟩
  ·have := h3 x hx
   exact fun ha => this.2.2 (by simp [ha])
theorem leftN_eq (s : Place) : ∀ (xs d r : List Str), leftN s xs d = (0, r) ↔ r = d ++ xs ∧ Defs s d xs
 | [], d, r => by simp only [leftN, List.append_nil, Defs.nil, and_true, Prod.mk.injEq, true_and]; exact eq_comm
 | x :: xs, d, r => by
   have ih := leftN_eq s xs (d ++ [x]) r
   have hap : x :: xs = [x] ++ xs := rfl
   rw [hap, Defs.app]
   have h1 : Defs s d [x] ↔ x ∈ s.vis ∧ x ∉ s.inputs ∧ x ∉ d := by unfold Defs; simp
   simp only [leftN, List.cons_append, List.nil_append]
   by_cases hv : x ∈ s.vis
   ·by_cases hd : x ∈ s.inputs ∨ x ∈ d
    ·have : ¬ Defs s d [x] := by rw [h1]; rintro ⟨_, a, b⟩; rcases hd with h | h; (exact a h); exact b h
     simp [hv, hd, this]
    ·simp only [not_or] at hd
     have : Defs s d [x] := h1.2 ⟨hv, hd.1, hd.2⟩
     simp [hv, hd, this, ih]
   ·have : ¬ Defs s d [x] := by rw [h1]; exact fun h => hv h.1
    simp [hv, this]
theorem eqnN_eq {s : Place} {q : Eqn} {d r : List Str} : eqnN s q d = (0, r) ↔ r = d ++ q.left ∧ Defs s d q.left ∧ exprN s q.right q.left.length = 0 := by
 unfold eqnN
 rw [bindE_eq]
 constructor
 ·rintro ⟨h1, h2⟩
  have h3 := (leftN_eq s q.left d _).1 (en_eta h1)
  simp only [Prod.mk.injEq] at h2
  exact ⟨by rw [← h2.2, h3.1], h3.2, h2.1⟩
 ·rintro ⟨rfl, h1, h2⟩
  rw [(leftN_eq s q.left d _).2 ⟨rfl, h1⟩]
  exact ⟨rfl, by simp [h2]⟩
def leftsOf (l : List Eqn) : List Str := l.flatMap (·.left)
theorem eqnsN_eq (s : Place) : ∀ (l : List Eqn) (d r : List Str), eqnsN s l d = (0, r) ↔ r = d ++ leftsOf l ∧ Defs s d (leftsOf l) ∧ ∀ q ∈ l, exprN s q.right q.left.length = 0
 | [], d, r => by simp only [eqnsN, leftsOf, List.flatMap_nil, List.append_nil, Defs.nil, true_and, List.not_mem_nil, false_imp_iff, implies_true, and_true, Prod.mk.injEq]; exact eq_comm
 | q :: l, d, r => by
   simp only [eqnsN]
   rw [bindE_eq]
   have hl : leftsOf (q :: l) = q.left ++ leftsOf l := by simp [leftsOf]
   rw [hl, Defs.app]
   constructor
   ·rintro ⟨h1, h2⟩
    obtain ⟨h3, h4, h5⟩ := eqnN_eq.1 (en_eta h1)
    rw [h3] at h2
    obtain ⟨h6, h7, h8⟩ := (eqnsN_eq s l _ r).1 h2
    refine ⟨by rw [h6, List.append_assoc], ⟨h4, h7⟩, ?_⟩
    intro x hx
    rcases List.mem_cons.1 hx with rfl | hx
    ·exact h5
    ·exact h8 x hx
   ·rintro ⟨h1, ⟨h2, h3⟩, h4⟩
    rw [eqnN_eq.2 ⟨rfl, h2, h4 q (by simp)⟩]
    refine ⟨rfl, (eqnsN_eq s l _ r).2 ⟨by rw [h1, List.append_assoc], h3, fun x hx => h4 x (by simp [hx])⟩⟩
theorem declN_eq (tags : List Str) : ∀ (l : List Decl) (v r : List Str), declN tags l v = (0, r) ↔ r = v ++ dnames l ∧ (∀ x ∈ dnames l, x ∉ v ∧ x ∉ tags) ∧ (dnames l).Nodup
 | [], v, r => by simp only [declN, dnames, List.map_nil, List.append_nil, List.not_mem_nil, false_imp_iff, implies_true, List.nodup_nil, and_true, Prod.mk.injEq, true_and]; exact eq_comm
 | d :: l, v, r => by
   have ih := declN_eq tags l (v ++ [d.name]) r
   simp only [declN]
   have hn : dnames (d :: l) = d.name :: dnames l := rfl
   rw [hn, List.nodup_cons]
   by_cases h : d.name ∈ v ∨ d.name ∈ tags
   ·simp only [h, if_true, Prod.mk.injEq]
    constructor
    ·rintro ⟨h, _⟩; exact absurd h (by decide)
    ·rintro ⟨_, h2, _⟩
     have := h2 d.name (by simp)
     rcases h with h | h
     ·exact absurd h this.1
     ·exact absurd h this.2
   ·simp only [h, if_false, ih]
    simp only [not_or] at h
    constructor
    ·rintro ⟨h1, h2, h3⟩
     refine ⟨by rw [h1]; simp, ?_, ?_, h3⟩
     ·intro x hx
      rcases List.mem_cons.1 hx with rfl | hx
      ·exact h
      ·have := h2 x hx
       exact ⟨fun hv => this.1 (by simp [hv]), this.2⟩
     ·intro hm
      exact (h2 _ hm).1 (by simp)
    ·rintro ⟨h1, h2, h3, h4⟩
     refine ⟨by rw [h1]; simp, ?_, h4⟩
     intro x hx
     have := h2 x (by simp [hx])
     refine ⟨?_, this.2⟩
     intro hm
     rcases List.mem_append.1 hm with h5 | h5
     ·exact this.1 h5
     ·simp only [List.mem_singleton] at h5; subst h5; exact h3 hx
theorem need_zero {b : Bool} {e : Int} (he : e ≠ 0) : need b e = 0 ↔ b = true := by cases b <;> simp [he]
theorem clocksN_zero {v : List Str} {l : List Decl} : clocksN v l = 0 ↔ ∀ d ∈ l, ∀ o ∈ d.clock, o.name ∈ v := by
 unfold clocksN
 rw [firstOf_zero]
 constructor
 ·intro h d hd o ho
  have := firstOf_zero.1 (h d hd) o ho
  simpa using (need_zero (by decide)).1 this
 ·intro h d hd
  rw [firstOf_zero]
  intro o ho
  rw [need_zero (by decide)]; simpa using h d hd o ho
theorem declareN_eq {v tags : List Str} {l : List Decl} {r : List Str} : declareN v tags l = (0, r) ↔ r = v ++ dnames l ∧ ((∀ x ∈ dnames l, x ∉ v ∧ x ∉ tags) ∧ (dnames l).Nodup) ∧ ∀ d ∈ l, ∀ o ∈ d.clock, o.name ∈ r := by
 unfold declareN
 rw [bindE_eq]
 constructor
 ·rintro ⟨h1, h2⟩
  obtain ⟨h3, h4⟩ := (declN_eq tags l v _).1 (en_eta h1)
  simp only [Prod.mk.injEq] at h2
  rw [← h2.2]
  exact ⟨h3, h4, clocksN_zero.1 h2.1⟩
 ·rintro ⟨h1, h2, h3⟩
  rw [(declN_eq tags l v _).2 ⟨rfl, h2⟩]
  refine ⟨rfl, ?_⟩
  rw [← h1, clocksN_zero.2 h3]
mutual
def defA : List (List State) → List Str
 | [] => []
 | [] :: xs => defA xs
 | (s :: r) :: xs => without (defS s) (dnames s.locals) ++ defA xs
def defS : State → List Str
 | .mk n l e a u w => leftsOf e ++ defA a
end
def resS (x : State) : List Str := without (defS x) (dnames x.locals)
theorem defA_cons (x : List State) (xs : List (List State)) : defA (x :: xs) = (x.map resS).headD [] ++ defA xs := by cases x <;> simp [defA, resS]
theorem lefts_eq {l : List Eqn} (h : (leftsOf l).Nodup) : lefts l = leftsOf l := by
 have := putAll_new (leftsOf l) [] h (by simp)
 simpa [lefts, leftsOf] using this
mutual
theorem stateN_ok : ∀ (x : State) (s : Place) (d l : List Str), stateN s d x = (0, l) → l = resS x ∧ Defs s d (resS x) ∧ definedS x = defS x
 | .mk n l e a u w, s, d, r, h => by
   simp only [stateN] at h
   rw [bindE_eq] at h; obtain ⟨h1, h⟩ := h
   rw [bindE_eq] at h; obtain ⟨h2, h⟩ := h
   rw [bindE_eq] at h; obtain ⟨h3, h⟩ := h
   rw [bindE_eq] at h; obtain ⟨h4, h⟩ := h
   rw [bindE_eq] at h; obtain ⟨h5, h⟩ := h
   obtain ⟨v1, v2, v3⟩ := declareN_eq.1 (en_eta h1)
   generalize (declareN s.vis s.tags l).2 = vis at *
   obtain ⟨e1, e2, e3⟩ := (eqnsN_eq (s.at vis) e d _).1 (en_eta h2)
   generalize (eqnsN (s.at vis) e d).2 = d1 at *
   obtain ⟨a1, a2, a3⟩ := autosN_ok a (s.at vis) d1 _ (en_eta h3)
   generalize (autosN (s.at vis) d1 a).2 = d2 at *
   have hD : Defs (s.at vis) d (leftsOf e ++ defA a) := Defs.app.2 ⟨e2, by rw [← e1]; exact a2⟩
   have hd2 : d2 = d ++ (leftsOf e ++ defA a) := by rw [a1, e1, List.append_assoc]
   have hw : without d2 d = leftsOf e ++ defA a := by rw [hd2]; exact without_back fun x hx => (hD.1 x hx).2.2
   rw [hw] at h
   have hdef : definedS (.mk n l e a u w) = defS (.mk n l e a u w) := by
    simp only [definedS, defS]
    rw [lefts_eq e2.2]
    exact a3 _ fun y hy hm => (a2.1 y hy).2.2 (by rw [e1]; simp [hm])
   have hres : resS (.mk n l e a u w) = without (leftsOf e ++ defA a) (dnames l) := by simp [resS, defS]
   have hall : Defs s d (resS (.mk n l e a u w)) := by
    rw [hres]
    refine ⟨?_, nodup_without hD.2⟩
    intro x hx
    rw [mem_without] at hx
    have := hD.1 x hx.1
    refine ⟨?_, this.2⟩
    have hv : x ∈ vis := this.1
    rw [v1] at hv
    rcases List.mem_append.1 hv with h6 | h6
    ·exact h6
    ·exact absurd h6 hx.2
   by_cases hw0 : without (dnames l) (leftsOf e ++ defA a) = []
   ·rw [if_pos hw0] at h
    simp only [Prod.mk.injEq, true_and] at h
    exact ⟨by rw [hres, h], hall, hdef⟩
   ·rw [if_neg hw0] at h
    simp only [Prod.mk.injEq] at h
    exact absurd h.1 (by decide)
theorem statesN_ok : ∀ (xs : List State) (s : Place) (d : List Str) (ls : List (List Str)), statesN s d xs = (0, ls) → ls = xs.map resS ∧ ∀ x ∈ xs, Defs s d (resS x) ∧ definedS x = defS x
 | [], s, d, ls, h => by simp only [statesN, Prod.mk.injEq, true_and] at h; subst h; simp
 | x :: xs, s, d, ls, h => by
   simp only [statesN] at h
   by_cases h1 : (stateN s d x).1 = 0
   ·by_cases h2 : (statesN s d xs).1 = 0
    ·simp only [h1, h2, if_true, Prod.mk.injEq, true_and] at h
     obtain ⟨a1, a2⟩ := stateN_ok x s d _ (en_eta h1)
     obtain ⟨b1, b2⟩ := statesN_ok xs s d (statesN s d xs).2 (by rw [← h2])
     refine ⟨by rw [← h, a1, b1]; rfl, ?_⟩
     intro y hy
     rcases List.mem_cons.1 hy with rfl | hy
     ·exact a2
     ·exact b2 y hy
    ·simp [h1, h2] at h
   ·simp [h1] at h
theorem autosN_ok : ∀ (a : List (List State)) (s : Place) (d r : List Str), autosN s d a = (0, r) → r = d ++ defA a ∧ Defs s d (defA a) ∧ ∀ out : List Str, (∀ y ∈ defA a, y ∉ out) → definedA out a = out ++ defA a
 | [], s, d, r, h => by
   simp only [autosN, Prod.mk.injEq, true_and] at h
   subst h
   simp only [defA, List.append_nil, Defs.nil, definedA, true_and, implies_true]
 | x :: xs, s, d, r, h => by
   simp only [autosN] at h
   by_cases hn : (x.map (·.name)).Nodup
   ·simp only [hn, not_true_eq_false, if_false] at h
    by_cases h1 : (statesN s d x).1 = 0
    ·simp only [h1, ne_eq, not_true_eq_false, if_false] at h
     obtain ⟨b1, b2⟩ := statesN_ok x s d (statesN s d x).2 (by rw [← h1])
     rw [b1] at h
     split at h
     ·obtain ⟨c1, c2, c3⟩ := autosN_ok xs s _ r h
      rw [defA_cons]
      have hd : Defs s d ((x.map resS).headD []) := by
       cases x with
       | nil => exact Defs.nil s d
       | cons y x => exact (b2 y (by simp)).1
      have hdd := Defs.app.2 ⟨hd, c2⟩
      refine ⟨by rw [c1, List.append_assoc], hdd, ?_⟩
      intro out ho
      cases x with
      | nil =>
        simp only [List.map_nil, List.headD_nil, List.nil_append] at ho ⊢
        simp only [definedA]
        exact c3 out ho
      | cons y x =>
        simp only [List.map_cons, List.headD_cons] at *
        simp only [definedA]
        have hy := (b2 y (by simp)).2
        rw [hy]
        have hr : without (defS y) (dnames y.locals) = resS y := rfl
        rw [hr, putAll_new _ _ hd.2 (fun z hz => ho z (by simp [hz]))]
        rw [c3 (out ++ resS y) ?_, List.append_assoc]
        intro z hz hm
        rcases List.mem_append.1 hm with h5 | h5
        ·exact ho z (by simp [hz]) h5
        ·exact (c2.1 z hz).2.2 (by simp [h5])
     ·simp only [Prod.mk.injEq] at h; exact absurd h.1 (by decide)
    ·simp [h1] at h
   ·simp only [hn, not_false_eq_true, if_true, Prod.mk.injEq] at h; exact absurd h.1 (by decide)
end
def Seen (b : List Node) (l : List Expr) : Prop := ∀ e ∈ l, ∃ (s : Place) (n : Nat), s.before = b ∧ exprN s e n = 0
theorem Seen.app {b : List Node} {l m : List Expr} : Seen b (l ++ m) ↔ Seen b l ∧ Seen b m := by
 unfold Seen
 constructor
 ·intro h; exact ⟨fun e he => h e (by simp [he]), fun e he => h e (by simp [he])⟩
 ·rintro ⟨h1, h2⟩ e he
  rcases List.mem_append.1 he with h | h
  ·exact h1 e h
  ·exact h2 e h
structure NodeOK (before : List Node) (tags : List Str) (n : Node) (c : List Str) : Prop where
 new : n.name ∉ before.map (·.name)
 decl : declareN [] tags (vars n) = (0, dnames (vars n))
 eqs : eqnsN ⟨before, dnames (vars n), dnames n.ins, tags⟩ n.eqs [] = (0, leftsOf n.eqs)
 autos : autosN ⟨before, dnames (vars n), dnames n.ins, tags⟩ (leftsOf n.eqs) n.autos = (0, c)
 assume : ∀ e ∈ n.assume, exprN ⟨before, dnames n.ins, dnames n.ins, tags⟩ e 1 = 0
 ensure : ∀ e ∈ n.ensure, exprN ⟨before, dnames n.ins ++ dnames n.outs, dnames n.ins, tags⟩ e 1 = 0
 all : ∀ x ∈ dnames n.outs ++ dnames n.locals, x ∈ c
theorem NodeOK.c_eq {before : List Node} {tags : List Str} {n : Node} {c : List Str} (h : NodeOK before tags n c) : c = leftsOf n.eqs ++ defA n.autos := (autosN_ok _ _ _ _ h.autos).1
theorem NodeOK.defs {before : List Node} {tags : List Str} {n : Node} {c : List Str} (h : NodeOK before tags n c) : Defs ⟨before, dnames (vars n), dnames n.ins, tags⟩ [] c := by
 rw [h.c_eq]
 refine Defs.app.2 ⟨((eqnsN_eq _ _ _ _).1 h.eqs).2.1, ?_⟩
 exact (autosN_ok _ _ _ _ h.autos).2.1
theorem dnames_vars (n : Node) : dnames (vars n) = dnames n.ins ++ (dnames n.outs ++ dnames n.locals) := by simp [dnames, vars]
theorem NodeOK.length {before : List Node} {tags : List Str} {n : Node} {c : List Str} (h : NodeOK before tags n c) : c.length = n.outs.length + n.locals.length := by
 obtain ⟨_, ⟨_, hv⟩, _⟩ := declareN_eq.1 h.decl
 rw [dnames_vars, nodup_app] at hv
 have hp : c.Perm (dnames n.outs ++ dnames n.locals) := by
  rw [List.perm_ext_iff_of_nodup h.defs.2 hv.2.1]
  intro x
  constructor
  ·intro hx
   have := h.defs.1 x hx
   have h1 : x ∈ dnames (vars n) := this.1
   rw [dnames_vars] at h1
   rcases List.mem_append.1 h1 with h2 | h2
   ·exact absurd h2 this.2.1
   ·exact h2
  ·exact h.all x
 rw [hp.length_eq]; simp [dnames]
structure OK (p : Prog) : Prop where
 shape : shapeBad p = none
 enums : enumsOK p.enums = true
 nodes : nodesN (tagsOf p.enums) [] p.nodes = none
end PI.Sc
set_option linter.unusedSimpArgs false
set_option linter.unusedVariables false
namespace PI.Sc
open Go (IntKind BinOp UnOp)
open Go.Lib (decDigits)
theorem dec_ne (u : Nat) : decDigits u ≠ [] := by
 rw [decDigits]
 split <;> simp
theorem dec_len : ∀ (k u : Nat), u < 10 ^ (k + 1) → (decDigits u).length ≤ k + 1
 | 0, u, h => by
   rw [decDigits, dif_pos (by simpa using h)]; simp
 | k + 1, u, h => by
   rw [decDigits]
   split
   ·simp
   ·have := dec_len k (u / 10) (by rw [Nat.pow_succ] at h; omega)
    simp; omega
theorem ofNat_inj {a b : Nat} (ha : a < 10) (hb : b < 10) (h : UInt8.ofNat (48 + a) = UInt8.ofNat (48 + b)) : a = b := by
 have := congrArg UInt8.toNat h
 simp at this
 omega
theorem dec_inj : ∀ (a b : Nat), decDigits a = decDigits b → a = b := by
 intro a
 induction a using Nat.strongRecOn with
 | _ a ih =>
   intro b h
   rw [decDigits, decDigits.eq_def b] at h
   split at h <;> split at h
   ·rename_i h1 h2
    exact ofNat_inj h1 h2 (by simpa using h)
   ·rename_i h1 h2
    have := congrArg List.length h
    have hne := dec_ne (b / 10)
    simp only [List.length_cons, List.length_nil, List.length_append] at this
    exact absurd (List.length_eq_zero_iff.1 (by omega)) hne
   ·rename_i h1 h2
    have := congrArg List.length h
    have hne := dec_ne (a / 10)
    simp only [List.length_cons, List.length_nil, List.length_append] at this
    exact absurd (List.length_eq_zero_iff.1 (by omega)) hne
   ·rename_i h1 h2
    obtain ⟨h3, h4⟩ := List.append_inj' h rfl
    have h5 := ih (a / 10) (by omega) (b / 10) h3
    have h6 := ofNat_inj (a := a % 10) (b := b % 10) (by omega) (by omega) (by simpa using h4)
    omega
theorem withNo_inj {base : Str} {a b : Nat} (h : withNo base a = withNo base b) : a = b := by
 unfold withNo at h
 have := List.append_cancel_left h
 exact dec_inj _ _ (by simpa using this)
theorem len_sub : ∀ (l m : List Str), l.Nodup → (∀ x ∈ l, x ∈ m) → l.length ≤ m.length
 | [], m, _, _ => by simp
 | x :: l, m, hn, h => by
   rw [List.nodup_cons] at hn
   have := len_sub l (m.erase x) hn.2 (by
    intro y hy
    have hne : y ≠ x := fun e => hn.1 (e ▸ hy)
    exact (List.mem_erase_of_ne hne).2 (h y (by simp [hy])))
   have hx := List.length_erase_of_mem (h x (by simp))
   have hp : 0 < m.length := List.length_pos_of_mem (h x (by simp))
   simp only [List.length_cons]
   omega
theorem nos_nodup (base : Str) (n : Nat) : ∀ k, ((List.range k).map fun i => withNo base (n + i)).Nodup := by
 intro k
 rw [List.nodup_iff_pairwise_ne, List.pairwise_map]
 exact (List.nodup_range (n := k)).imp fun {a b} hab e => hab (by have := withNo_inj e; omega)
theorem some_new (all : List Str) (base : Str) (n : Nat) : ∃ i, i ≤ all.length ∧ withNo base (n + i) ∉ all := by
 refine Classical.byContradiction fun hno => ?_
 have := len_sub ((List.range (all.length + 1)).map fun i => withNo base (n + i)) all (nos_nodup base n _) (by
  intro x hx
  obtain ⟨i, hi, rfl⟩ := List.mem_map.1 hx
  rw [List.mem_range] at hi
  refine Classical.byContradiction fun hx => hno ⟨i, by omega, hx⟩)
 simp at this
 omega
theorem freshNo_at (all : List Str) (base : Str) : ∀ (k n m : Nat), n ≤ m → m < n + k → (∀ j, n ≤ j → j < m → withNo base j ∈ all) → withNo base m ∉ all → freshNo all base k n = m
 | 0, n, m, h1, h2, _, _ => by omega
 | k + 1, n, m, h1, h2, h3, h4 => by
   simp only [freshNo]
   by_cases he : n = m
   ·subst he; rw [if_neg h4]
   ·rw [if_pos (h3 n (Nat.le_refl _) (by omega))]
    exact freshNo_at all base k (n + 1) m (by omega) (by omega) (fun j hj => h3 j (by omega)) h4
theorem least_new (all : List Str) (base : Str) (n : Nat) : ∃ m, n ≤ m ∧ m ≤ n + all.length ∧ (∀ j, n ≤ j → j < m → withNo base j ∈ all) ∧ withNo base m ∉ all := by
 obtain ⟨i, h1, h2⟩ := some_new all base n
 have key : ∀ (d m : Nat), n ≤ m → m + d = n + i → (∀ j, n ≤ j → j < m → withNo base j ∈ all) → ∃ m, n ≤ m ∧ m ≤ n + i ∧ (∀ j, n ≤ j → j < m → withNo base j ∈ all) ∧ withNo base m ∉ all := by
  intro d
  induction d with
  | zero =>
    intro m h3 h4 h5
    have : m = n + i := by omega
    subst this
    exact ⟨n + i, h3, Nat.le_refl _, h5, h2⟩
  | succ d ih =>
    intro m h3 h4 h5
    by_cases hm : withNo base m ∈ all
    ·refine ih (m + 1) (by omega) (by omega) ?_
     intro j hj1 hj2
     by_cases e : j = m
     ·subst e; exact hm
     ·exact h5 j hj1 (by omega)
    ·exact ⟨m, h3, by omega, h5, hm⟩
 obtain ⟨m, a, b, c, d⟩ := key i n (Nat.le_refl _) rfl (fun j hj1 hj2 => by omega)
 exact ⟨m, a, by omega, c, d⟩
theorem fresh_least (p : Prog) (base : Str) : ∃ m, 1 ≤ m ∧ m ≤ 1 + (allNames p).length ∧ (∀ j, 1 ≤ j → j < m → withNo base j ∈ allNames p) ∧ withNo base m ∉ allNames p ∧ fresh p base = withNo base m := by
 obtain ⟨m, a, b, c, d⟩ := least_new (allNames p) base 1
 refine ⟨m, a, b, c, d, ?_⟩
 unfold fresh
 rw [freshNo_at _ _ _ _ m a (by omega) c d]
theorem fresh_new (p : Prog) (base : Str) : fresh p base ∉ allNames p := by
 obtain ⟨m, _, _, _, h, e⟩ := fresh_least p base
 rw [e]; exact h
def low (b : UInt8) : Bool := decide (97 ≤ b.toNat ∧ b.toNat ≤ 122)
structure Near (x : Str) (s s' : Place) : Prop where
 before : s'.before = s.before
 inputs : s'.inputs = s.inputs
 tags : s'.tags = s.tags
 more : ∀ y ∈ s.vis, y ∈ s'.vis
 less : ∀ y ∈ s'.vis, y ∈ s.vis ∨ y = x
theorem Near.at {x : Str} {s s' : Place} (h : Near x s s') (l : List Str) : Near x (s.at (s.vis ++ l)) (s'.at (s'.vis ++ l)) := by
 refine ⟨h.before, h.inputs, h.tags, ?_, ?_⟩
 ·intro y hy
  rcases List.mem_append.1 hy with h1 | h1
  ·exact List.mem_append_left _ (h.more y h1)
  ·exact List.mem_append_right _ h1
 ·intro y hy
  rcases List.mem_append.1 hy with h1 | h1
  ·rcases h.less y h1 with h2 | h2
   ·exact .inl (List.mem_append_left _ h2)
   ·exact .inr h2
  ·exact .inl (List.mem_append_right _ h1)
end PI.Sc
set_option linter.unusedSimpArgs false
set_option linter.unusedVariables false
namespace PI.Sc
open Go (IntKind BinOp UnOp)
theorem loop_rel {L : Nat → Option PFunc} {c : PC} {Q : PExit → St → Prop} (n : Nat) (Inv : Nat → St → Prop) {st : St}
  (step : ∀ i, i < n → ∀ st, Inv i st → (∀ st', Inv (i + 1) st' → wpL L (.loop c) st' Q) → wpL L c st (loopK L c Q))
  (last : ∀ st, Inv n st → wpL L c st (loopK L c Q)) (h0 : Inv 0 st) : wpL L (.loop c) st Q := by
 have key : ∀ k i st, i + k = n → Inv i st → wpL L (.loop c) st Q := by
  intro k
  induction k with
  | zero =>
    intro i st hi hh
    have : i = n := by omega
    subst this
    rw [wpL_loop]
    exact last st hh
  | succ k ih =>
    intro i st hi hh
    rw [wpL_loop]
    exact step i (by omega) st hh fun st' h' => ih (i + 1) st' (by omega) h'
 exact key n 0 st (by omega) h0
end PI.Sc
set_option linter.unusedSimpArgs false
set_option linter.unusedVariables false
namespace PI.Sc
open Go (IntKind BinOp UnOp)
def total {α : Type} (f : α → Nat) : List α → Nat
 | [] => 0
 | x :: xs => f x + total f xs
theorem total_app {α : Type} (f : α → Nat) : ∀ a b : List α, total f (a ++ b) = total f a + total f b
 | [], b => by simp [total]
 | x :: a, b => by simp [total, total_app f a b]; omega
theorem total_mem {α : Type} (f : α → Nat) {x : α} : ∀ {l : List α}, x ∈ l → f x ≤ total f l
 | [], h => by simp at h
 | y :: l, h => by
   simp only [total]
   rcases List.mem_cons.1 h with rfl | h
   ·omega
   ·have := total_mem f h; omega
theorem total_len {α : Type} (f : α → Nat) (h : ∀ x, 1 ≤ f x) : ∀ l : List α, l.length ≤ total f l
 | [] => by simp
 | x :: l => by have := h x; have := total_len f h l; simp only [total, List.length_cons]; omega
theorem flat_le {α β : Type} (g : α → List β) (f : α → Nat) : ∀ l : List α, (∀ x ∈ l, (g x).length ≤ f x) → (l.flatMap g).length ≤ total f l
 | [], _ => by simp
 | x :: l, h => by
   have h1 := h x (by simp)
   have h2 := flat_le g f l (fun y hy => h y (by simp [hy]))
   simp only [List.flatMap_cons, List.length_append, total]; omega
def Expr.parts (e : Expr) : Nat := e.list.length
def Eqn.parts (q : Eqn) : Nat := 1 + q.left.length + q.right.parts
def Decl.parts (d : Decl) : Nat := 1 + d.clock.length + d.name.length / 100
def Trn.parts (t : Trn) : Nat := 1 + t.cond.parts
mutual
def State.parts : State → Nat
 | .mk n l e a u w => 1 + total Decl.parts l + total Eqn.parts e + total Trn.parts u + total Trn.parts w + partsA a
def partsL : List State → Nat
 | [] => 0
 | x :: xs => x.parts + partsL xs
def partsA : List (List State) → Nat
 | [] => 0
 | x :: xs => 1 + partsL x + partsA xs
end
theorem partsL_eq : ∀ l : List State, partsL l = total State.parts l
 | [] => rfl
 | x :: l => by simp [partsL, total, partsL_eq l]
theorem partsA_eq : ∀ l : List (List State), partsA l = total (fun a => 1 + total State.parts a) l
 | [] => rfl
 | x :: l => by simp [partsA, total, partsA_eq l, partsL_eq]
def Node.parts (n : Node) : Nat := 1 + total Decl.parts n.ins + total Decl.parts n.outs + total Decl.parts n.locals + total Eqn.parts n.eqs + total (fun e => 1 + Expr.parts e) n.assume + total (fun e => 1 + Expr.parts e) n.ensure + partsA n.autos
def Enum.parts (u : Enum) : Nat := 1 + u.tags.length
def parts (p : Prog) : Nat := total Enum.parts p.enums + total Node.parts p.nodes
def heavy (p : Prog) : Bool := decide (1500 ≤ parts p)
theorem exprNames_le (e : Expr) : (exprNames e).length ≤ e.parts := by
 unfold exprNames Expr.parts
 rw [List.length_map]
 exact List.length_filter_le ..
theorem declaredN_le (l : List Decl) : (declaredN l).length ≤ total Decl.parts l := by
 induction l with
 | nil => simp [declaredN, dnames, total]
 | cons d l ih =>
   unfold declaredN dnames at *
   simp only [List.map_cons, List.cons_append, List.flatMap_cons, List.length_cons, List.length_append, List.length_map, total, Decl.parts] at *
   omega
theorem lefts_le (l : List Eqn) : (l.flatMap (·.left)).length + ((l.map (·.right)).flatMap exprNames).length ≤ total Eqn.parts l := by
 induction l with
 | nil => simp [total]
 | cons q l ih =>
   have := exprNames_le q.right
   simp only [List.map_cons, List.flatMap_cons, List.length_append, total, Eqn.parts] at *
   omega
theorem conds_le (l : List Trn) : ((l.map (·.cond)).flatMap exprNames).length ≤ total Trn.parts l := by
 induction l with
 | nil => simp [total]
 | cons q l ih =>
   have := exprNames_le q.cond
   simp only [List.map_cons, List.flatMap_cons, List.length_append, total, Trn.parts] at *
   omega
theorem exprs_le (l : List Expr) : (l.flatMap exprNames).length ≤ total (fun e => 1 + Expr.parts e) l :=
 flat_le _ _ l fun x _ => by have := exprNames_le x; omega
mutual
theorem insideS_le : ∀ s : State, (insideS s).length + ((rightsS s).flatMap exprNames).length ≤ s.parts
 | .mk n l e a u w => by
   have h1 := declaredN_le l
   have h2 := lefts_le e
   have h3 := conds_le u
   have h4 := conds_le w
   have h5 := insideA_le a
   simp only [insideS, rightsS, List.flatMap_append, List.length_append, List.length_cons, State.parts, List.cons_append] at *
   omega
theorem insideL_le : ∀ l : List State, (insideL l).length + ((rightsL l).flatMap exprNames).length ≤ partsL l
 | [] => by simp [insideL, rightsL, partsL]
 | s :: l => by
   have h1 := insideS_le s
   have h2 := insideL_le l
   simp only [insideL, rightsL, List.flatMap_append, List.length_append, partsL]
   omega
theorem insideA_le : ∀ l : List (List State), (insideA l).length + ((rightsA l).flatMap exprNames).length ≤ partsA l
 | [] => by simp [insideA, rightsA, partsA]
 | s :: l => by
   have h1 := insideL_le s
   have h2 := insideA_le l
   simp only [insideA, rightsA, List.flatMap_append, List.length_append, partsA]
   omega
end
theorem nodeNames_le (n : Node) : (nodeNames n).length ≤ n.parts := by
 have h1 := declaredN_le (vars n)
 have h2 := lefts_le n.eqs
 have h3 := insideA_le n.autos
 have h4 := exprs_le n.assume
 have h5 := exprs_le n.ensure
 unfold nodeNames nodeExprs Node.parts
 unfold vars at h1 ⊢
 simp only [total_app] at h1
 simp only [List.flatMap_append, List.length_append, List.length_cons, List.cons_append] at *
 omega
theorem allNames_le (p : Prog) : (allNames p).length ≤ parts p := by
 unfold allNames parts
 rw [List.length_append]
 have h1 := flat_le (fun u : Enum => u.name :: u.tags) Enum.parts p.enums (fun u _ => by simp [Enum.parts]; omega)
 have h2 := flat_le nodeNames Node.parts p.nodes (fun n _ => nodeNames_le n)
 omega
def Cap (m n T : Int) : Prop := (n < m ↔ T < m) ∧ (n < m → n = T)
theorem Cap.refl (m n : Int) : Cap m n n := ⟨Iff.rfl, fun _ => rfl⟩
theorem Cap.min {m T : Int} : Cap m (if T < m then T else m) T := by unfold Cap; split <;> omega
theorem Cap.add {m a b A B : Int} (h1 : Cap m a A) (h2 : Cap m b B) (p1 : 0 ≤ a) (p2 : 0 ≤ b) (p3 : 0 ≤ A) (p4 : 0 ≤ B) : Cap m (a + b) (A + B) := by unfold Cap at *; omega
end PI.Sc
set_option maxRecDepth 100000
set_option linter.unusedSimpArgs false
set_option linter.unusedVariables false
namespace PI.Sc
open Go (IntKind BinOp UnOp)
theorem take_snoc {α : Type} {l : List α} {i : Nat} (h : i < l.length) : l.take (i + 1) = l.take i ++ [l[i]] := by rw [List.take_add_one, List.getElem?_eq_getElem h]; rfl
theorem total_take {α : Type} (f : α → Nat) {l : List α} {i : Nat} (h : i < l.length) : total f (l.take (i + 1)) = total f (l.take i) + f l[i] := by rw [take_snoc h, total_app]; simp [total]
theorem total_le {α : Type} (f : α → Nat) (l : List α) (i : Nat) : total f (l.take i) ≤ total f l := by
 have := total_app f (l.take i) (l.drop i)
 rw [List.take_append_drop] at this
 omega
theorem parts_eq (e : Expr) : e.parts = 1 + total Expr.parts e.args := by
 unfold Expr.parts
 rw [Expr.list_eq]
 have : ∀ l : List Expr, (l.flatMap Expr.list).length = total (fun x => x.list.length) l := by
  intro l
  induction l with
  | nil => rfl
  | cons x l ih => simp only [List.flatMap_cons, List.length_append, total, ih]
 simp only [List.length_cons, this]
 show _ = 1 + total (fun e => e.list.length) e.args
 omega
theorem parts_pos (e : Expr) : 1 ≤ e.parts := by rw [parts_eq]; omega
theorem args_len (e : Expr) : e.args.length < e.parts := by
 have := total_len Expr.parts parts_pos e.args
 rw [parts_eq]; omega
theorem arg_parts {e x : Expr} (h : x ∈ e.args) : x.parts < e.parts := by
 have := total_mem Expr.parts h
 rw [parts_eq e]; omega
theorem wrap_nat (n : Nat) (h : n ≤ 9223372036854775807) : IntKind.i64.wrap (n : Int) = n := wrap_i64 _ (by omega) (by omega)
section
variable {L : Nat → Option PFunc} (hL : ∀ k f, LS k = some f → L k = some f)
include hL
theorem ref_list (e : Expr) : e.parts ≤ 1500 → ∀ (l : List Expr), l.length + e.parts ≤ 3000 → callL L 85 (ownArgs (some 1) [eExpr e, .list true (l.map eExpr)]) [] = some (.list true ((l ++ e.list).map eExpr), []) := by
 induction e using Expr.ind with
 | h e ih =>
 intro hp l hl
 have hal := args_len e
 have hpe := parts_eq e
 refine callL_wpX (hL 85 _ rfl) rfl ?_
 have hl2 : l.length + 1 ≤ 2147483648 := by omega
 simp [f_ref06_list, entry, hl2]
 refine loop_go e.args.length (fun i (_ : Unit) => [(1, .list true ((l ++ e :: (e.args.take i).flatMap Expr.list).map eExpr)), (4, .int .i64 i)]) (fun _ _ => []) () ?_ ?_ (by simp) rfl
 ·intro i hi _ ih2
  have hw := wrap_succ i (by omega)
  have hap := arg_parts (List.getElem_mem hi)
  have h1 := total_take Expr.parts hi
  have h2 := total_le Expr.parts e.args (i + 1)
  have hfl : ((e.args.take i).flatMap Expr.list).length = total Expr.parts (e.args.take i) := by
   generalize e.args.take i = l
   induction l with
   | nil => rfl
   | cons x l ih => simp only [List.flatMap_cons, List.length_append, total, ih]; rfl
  have hc := ih e.args[i] (List.getElem_mem hi) (by omega) (l ++ e :: (e.args.take i).flatMap Expr.list) (by simp only [List.length_append, List.length_cons, hfl]; omega)
  have ih2 := ih2 ()
  rw [take_snoc hi, List.flatMap_append, List.flatMap_singleton, ← List.cons_append, ← List.append_assoc] at ih2
  generalize l ++ e :: (e.args.take i).flatMap Expr.list = z at *
  simp [hi, hw, hc]
  simpa using ih2
 ·intro _
  have := Expr.list_eq e
  simp [this]
theorem ref_List (e : Expr) (hp : e.parts ≤ 1500) (h : List PObj) : callL L 41 [eExpr e] h = some (.list true (e.list.map eExpr), h) := by
 have hc := ref_list hL e hp [] (by simp; omega)
 refine callL_wp (hL 41 _ rfl) rfl ?_
 simp at hc
 simp [f_ref06_List, hc]
end
end PI.Sc
set_option maxRecDepth 100000
set_option linter.unusedSimpArgs false
set_option linter.unusedVariables false
namespace PI.Sc
open Go (IntKind BinOp UnOp)
def EW (e : Expr) : Prop := ∀ x ∈ e.list, I64 x.t ∧ I64 x.v ∧ x.args.length ≤ 140737488355328
theorem EW.self {e : Expr} (h : EW e) : I64 e.t ∧ I64 e.v ∧ e.args.length ≤ 140737488355328 := h e (by rw [Expr.list_eq]; simp)
theorem EW.arg {e x : Expr} (h : EW e) (hx : x ∈ e.args) : EW x := fun y hy => h y (by rw [Expr.list_eq]; exact List.mem_cons_of_mem _ (List.mem_flatMap.2 ⟨x, hx, hy⟩))
theorem EW.mem {e x : Expr} (h : EW e) (hx : x ∈ e.list) : EW x := by
 induction e using Expr.ind with
 | h e ih =>
   rw [Expr.list_eq] at hx
   rcases List.mem_cons.1 hx with rfl | hx
   ·exact h
   ·obtain ⟨y, hy, hx⟩ := List.mem_flatMap.1 hx
    exact ih y hy (h.arg hy) hx
@[simp] theorem ibeq (a b : Int) : (a == b) = decide (a = b) := by rw [Bool.eq_iff_iff]; simp
@[simp] theorem ibne (a b : Int) : (a != b) = !decide (a = b) := by rw [Bool.eq_iff_iff]; simp
@[simp] theorem sbeq (a b : Str) : (a == b) = decide (a = b) := by rw [Bool.eq_iff_iff]; simp
@[simp] theorem sbne (a b : Str) : (a != b) = !decide (a = b) := by rw [Bool.eq_iff_iff]; simp
@[simp] theorem bbeq (a b : Bool) : (a == b) = decide (a = b) := by cases a <;> cases b <;> rfl
@[simp] theorem cells_agg (cs : List PV) : (PV.agg cs).cells = cs := rfl
end PI.Sc
set_option maxRecDepth 100000
set_option linter.unusedSimpArgs false
set_option linter.unusedVariables false
namespace PI.Sc
open Go (IntKind BinOp UnOp)
class TF (p : Prop) (r : outParam Prop) : Prop where
 fact : p → r
instance (priority := low) tfPos (p : Prop) : TF p (p = True) := ⟨eq_true⟩
instance tfNeg (p : Prop) : TF (¬ p) (p = False) := ⟨eq_false⟩
end PI.Sc
set_option maxRecDepth 100000
set_option linter.unusedSimpArgs false
set_option linter.unusedVariables false
namespace PI.Sc
open Go (IntKind BinOp UnOp)
open Short
structure XW (e : Expr) : Prop where
 parts : e.parts ≤ 1500
 ew : EW e
structure DW (d : Decl) : Prop where
 type : I64 d.type
 clock : d.clock.length ≤ 1500
 on : ∀ o ∈ d.clock, I64 o.t
structure QW (q : Eqn) : Prop where
 left : q.left.length ≤ 1500
 right : XW q.right
inductive SW : State → Prop
 | mk (s : State) (locals : s.locals.length ≤ 1500) (ls : ∀ d ∈ s.locals, DW d) (eqs : s.eqs.length ≤ 1500) (es : ∀ q ∈ s.eqs, QW q) (unl : s.unl.length ≤ 1500) (us : ∀ t ∈ s.unl, XW t.cond) (til : s.til.length ≤ 1500) (ts : ∀ t ∈ s.til, XW t.cond) (autos : s.autos.length ≤ 1500) (as : ∀ a ∈ s.autos, a.length ≤ 1500) (ss : ∀ a ∈ s.autos, ∀ x ∈ a, SW x) : SW s
theorem SW.locals {s : State} : SW s → s.locals.length ≤ 1500 | .mk _ h .. => h
theorem SW.ls {s : State} : SW s → ∀ d ∈ s.locals, DW d | .mk _ _ h .. => h
theorem SW.eqs {s : State} : SW s → s.eqs.length ≤ 1500 | .mk _ _ _ h .. => h
theorem SW.es {s : State} : SW s → ∀ q ∈ s.eqs, QW q | .mk _ _ _ _ h .. => h
theorem SW.unl {s : State} : SW s → s.unl.length ≤ 1500 | .mk _ _ _ _ _ h .. => h
theorem SW.us {s : State} : SW s → ∀ t ∈ s.unl, XW t.cond | .mk _ _ _ _ _ _ h .. => h
theorem SW.til {s : State} : SW s → s.til.length ≤ 1500 | .mk _ _ _ _ _ _ _ h .. => h
theorem SW.ts {s : State} : SW s → ∀ t ∈ s.til, XW t.cond | .mk _ _ _ _ _ _ _ _ h .. => h
theorem SW.autos {s : State} : SW s → s.autos.length ≤ 1500 | .mk _ _ _ _ _ _ _ _ _ h .. => h
theorem SW.as {s : State} : SW s → ∀ a ∈ s.autos, a.length ≤ 1500 | .mk _ _ _ _ _ _ _ _ _ _ h _ => h
theorem SW.ss {s : State} : SW s → ∀ a ∈ s.autos, ∀ x ∈ a, SW x | .mk _ _ _ _ _ _ _ _ _ _ _ h => h
structure AsW (l : List (List State)) : Prop where
 len : l.length ≤ 1500
 as : ∀ a ∈ l, a.length ≤ 1500
 ss : ∀ a ∈ l, ∀ x ∈ a, SW x
theorem SW.asW {s : State} (h : SW s) : AsW s.autos := ⟨h.autos, h.as, h.ss⟩
structure NW (n : Node) : Prop where
 ins : n.ins.length ≤ 1500
 is : ∀ d ∈ n.ins, DW d
 outs : n.outs.length ≤ 1500
 os : ∀ d ∈ n.outs, DW d
 locals : n.locals.length ≤ 1500
 ls : ∀ d ∈ n.locals, DW d
 eqs : n.eqs.length ≤ 1500
 es : ∀ q ∈ n.eqs, QW q
 autos : AsW n.autos
 assume : n.assume.length ≤ 1500
 as : ∀ e ∈ n.assume, XW e
 ensure : n.ensure.length ≤ 1500
 gs : ∀ e ∈ n.ensure, XW e
structure PW (p : Prog) : Prop where
 enums : p.enums.length ≤ 1500
 tags : ∀ u ∈ p.enums, u.tags.length ≤ 1500
 nodes : p.nodes.length ≤ 1500
 ns : ∀ n ∈ p.nodes, NW n
end PI.Sc
set_option maxRecDepth 100000
set_option linter.unusedSimpArgs false
set_option linter.unusedVariables false
namespace PI.Sc
open Go (IntKind BinOp UnOp)
open Short
end PI.Sc
set_option maxRecDepth 100000
set_option linter.unusedSimpArgs false
set_option linter.unusedVariables false
namespace PI.Sc
open Go (IntKind BinOp UnOp)
open Short
section
variable {L : Nat → Option PFunc} {Q : PExit → St → Prop}
theorem loop_at {α γ : Type} {c : PC} {V : List PV} {g : Nat} {h : List PObj} (l : List α) (ok : Nat → α → Bool) (M : Nat → γ → List (Nat × PV)) (G : Nat → γ → Nat) (H : Nat → γ → List PObj) (x0 : γ)
  (step : ∀ i (hi : i < l.length), ok i l[i] = true → ∀ x, (∀ y, wpL L (.loop c) ⟨upd V (M (i + 1) y), [], G (i + 1) y, H (i + 1) y⟩ Q) → wpL L c ⟨upd V (M i x), [], G i x, H i x⟩ (loopK L c Q))
  (fail : ∀ i (hi : i < l.length), ok i l[i] = false → (∀ k (hk : k < l.length), k < i → ok k l[k] = true) → ∀ x, wpL L c ⟨upd V (M i x), [], G i x, H i x⟩ (loopK L c Q))
  (last : (∀ k (hk : k < l.length), ok k l[k] = true) → ∀ x, wpL L c ⟨upd V (M l.length x), [], G l.length x, H l.length x⟩ (loopK L c Q)) (hV : upd V (M 0 x0) = V) (hG : G 0 x0 = g) (hH : H 0 x0 = h) : wpL L (.loop c) ⟨V, [], g, h⟩ Q := by
 refine loop_updG l.length (fun i => if h : i < l.length then ok i l[i] else true) M G H x0 ?_ ?_ ?_ hV hG hH
 ·intro i hi hok x ih
  simp only [hi, dif_pos] at hok
  exact step i hi hok x ih
 ·intro i hi hok hk x
  simp only [hi, dif_pos] at hok
  refine fail i hi hok (fun k h1 h2 => ?_) x
  have := hk k h2
  simpa only [h1, dif_pos] using this
 ·intro hok x
  refine last (fun k hk => ?_) x
  have := hok k hk
  simpa only [hk, dif_pos] using this
theorem loop_at' {α γ : Type} {c : PC} {V : List PV} {g : Nat} {h : List PObj} (l : List α) (ok : Nat → α → Bool) (M : Nat → γ → List (Nat × PV)) (x0 : γ)
  (step : ∀ i (hi : i < l.length), ok i l[i] = true → ∀ x, (∀ y, wpL L (.loop c) ⟨upd V (M (i + 1) y), [], g, h⟩ Q) → wpL L c ⟨upd V (M i x), [], g, h⟩ (loopK L c Q))
  (fail : ∀ i (hi : i < l.length), ok i l[i] = false → (∀ k (hk : k < l.length), k < i → ok k l[k] = true) → ∀ x, wpL L c ⟨upd V (M i x), [], g, h⟩ (loopK L c Q))
  (last : (∀ k (hk : k < l.length), ok k l[k] = true) → ∀ x, wpL L c ⟨upd V (M l.length x), [], g, h⟩ (loopK L c Q)) (hV : upd V (M 0 x0) = V) : wpL L (.loop c) ⟨V, [], g, h⟩ Q :=
 loop_at l ok M (fun _ _ => g) (fun _ _ => h) x0 step fail last hV rfl rfl
end
section
variable {L : Nat → Option PFunc} (hL : ∀ k f, LS k = some f → L k = some f)
include hL
theorem ref_find (p : Prog) (hl : p.nodes.length ≤ 1500) (s : Str) (h : List PObj) : callL L 42 [eProg p, .str s] h = some (.tuple [.int .i64 ((find p.nodes s).getD 0 : Nat), .bool (find p.nodes s).isSome], h) := by
 refine callL_wp (hL 42 _ rfl) rfl ?_
 simp [f_ref07_Find]
 refine loop_at' p.nodes (fun _ n => !decide (n.name = s)) (fun i (_ : Unit) => [(5, .int .i64 i)]) () ?_ ?_ ?_ rfl
 ·intro i hi hok x ih
  have hw := wrap_succ i (by omega)
  simp only [Bool.not_eq_true', decide_eq_false_iff_not] at hok
  simp [hi, hw, hok]
  simpa using ih ()
 ·intro i hi hok hpre x
  simp only [Bool.not_eq_false', decide_eq_true_eq] at hok
  have hf : find p.nodes s = some i := by
   unfold find
   rw [List.findIdx?_eq_some_iff_getElem]
   refine ⟨hi, by simp [hok], fun j hj => ?_⟩
   have := hpre j (by omega) hj
   simpa using this
  rw [hf]
  simp [hi, hok]
 ·intro hall x
  have hf : find p.nodes s = none := by
   unfold find
   rw [List.findIdx?_eq_none_iff]
   intro n hn
   obtain ⟨k, hk, rfl⟩ := List.mem_iff_getElem.1 hn
   have := hall k hk
   simpa using this
  rw [hf]
  simp
theorem ref_has' (l : List Str) (hl : l.length ≤ 9223372036854775807) (s : Str) (o : Bool) (h : List PObj) : callL L 21 [.list o (l.map .str), .str s] h = some (.bool (decide (s ∈ l)), h) := by
 refine callL_wp (hL 21 _ rfl) rfl ?_
 simp [f_ref06_Has]
 refine loop_at' l (fun _ n => !decide (n = s)) (fun i (_ : Unit) => [(3, .int .i64 i)]) () ?_ ?_ ?_ rfl
 ·intro i hi hok x ih
  have hw := wrap_succ i (by omega)
  simp only [Bool.not_eq_true', decide_eq_false_iff_not] at hok
  simp [hi, hw, hok]
  simpa using ih ()
 ·intro i hi hok hpre x
  simp only [Bool.not_eq_false', decide_eq_true_eq] at hok
  have hm : s ∈ l := hok ▸ List.getElem_mem hi
  simp [hi, hok, hm]
 ·intro hall x
  have hm : s ∉ l := by
   intro hm
   obtain ⟨k, hk, rfl⟩ := List.mem_iff_getElem.1 hm
   have := hall k hk
   simp at this
  simp [hm]
end
end PI.Sc
set_option maxRecDepth 100000
set_option linter.unusedSimpArgs false
set_option linter.unusedVariables false
namespace PI.Sc
open Go (IntKind BinOp UnOp)
open Short
def ePl (en : List Enum) (ns : List Node) (i : Int) (v x t : List Str) : PV := .agg [.list false (en.map eEnum), .list false (ns.map eNode), .int .i64 i, .list false (v.map .str), .list false (x.map .str), .list false (t.map .str)]
section
variable (en : List Enum) (ns : List Node) (i : Int) (v x t : List Str)
theorem ePl_def : ePl en ns i v x t = .agg [.list false (en.map eEnum), .list false (ns.map eNode), .int .i64 i, .list false (v.map .str), .list false (x.map .str), .list false (t.map .str)] := rfl
@[simp] theorem ePl_cells : (ePl en ns i v x t).cells = [.list false (en.map eEnum), .list false (ns.map eNode), .int .i64 i, .list false (v.map .str), .list false (x.map .str), .list false (t.map .str)] := rfl
@[simp] theorem ePl_cp : cp (ePl en ns i v x t) = some (ePl en ns i v x t) := rfl
@[simp] theorem ePl_tkv : tkv (ePl en ns i v x t) = some (ePl en ns i v x t, false) := rfl
@[simp] theorem ePl_aggCells : aggCells (ePl en ns i v x t) = some (ePl en ns i v x t).cells := rfl
@[simp] theorem ePl_dem : dem (ePl en ns i v x t) = ePl en ns i v x t := rfl
@[simp] theorem ePl_deep : deep (ePl en ns i v x t) = ePl en ns i v x t := rfl
@[simp] theorem ePl_rowp : rowpNo (ePl en ns i v x t) = none := rfl
@[simp] theorem ePl_fold : PV.agg [.list false (en.map eEnum), .list false (ns.map eNode), .int .i64 i, .list false (v.map .str), .list false (x.map .str), .list false (t.map .str)] = ePl en ns i v x t := rfl
@[simp] theorem ePl_free : refFree (ePl en ns i v x t) = true := by rw [ePl_def]; simp [-ePl_fold]
end
@[simp] theorem zeroNode : PV.agg [.str [], .list false [], .list false [], .list false [], .list false [], .list false [], .list false [], .list false []] = eNode ⟨[], [], [], [], [], [], [], []⟩ := rfl
theorem dnames_take {l : List Decl} {i : Nat} (h : i < l.length) : dnames (l.take (i + 1)) = dnames (l.take i) ++ [l[i].name] := by unfold dnames; rw [take_snoc h, List.map_append]; rfl
section
variable {L : Nat → Option PFunc} (hL : ∀ k f, LS k = some f → L k = some f)
include hL
theorem ref_names (l : List Decl) (hl : l.length ≤ 2000000000) (o : Bool) (h : List PObj) : callL L 69 [.list o (l.map eDecl)] h = some (.list true ((dnames l).map .str), h) := by
 refine callL_wp (hL 69 _ rfl) rfl ?_
 simp [f_ref10_names]
 refine loop_go l.length (fun i (_ : Unit) => [(2, .list true ((dnames (l.take i)).map .str)), (3, .int .i64 i)]) (fun _ _ => h) () ?_ ?_ (by simp [dnames]) rfl
 ·intro i hi _ ih
  have hw := wrap_succ i (by omega)
  have ih := ih ()
  have hd := dnames_take hi
  rw [hd] at ih
  have hlen : (dnames (l.take i)).length + 1 ≤ 2147483648 := by simp [dnames]; omega
  generalize dnames (l.take i) = z at *
  simp [hi, hw, hlen]
  simpa using ih
 ·intro _
  simp
theorem ref_namesX (l : List Decl) (hl : l.length ≤ 2000000000) (o : Bool) : callL L 69 (ownArgs none [.list o (l.map eDecl)]) [] = some (.list true ((dnames l).map .str), []) := by
 refine callL_wpX (hL 69 _ rfl) rfl ?_
 simp [f_ref10_names, entry]
 refine loop_go l.length (fun i (_ : Unit) => [(2, .list true ((dnames (l.take i)).map .str)), (3, .int .i64 i)]) (fun _ _ => []) () ?_ ?_ (by simp [dnames]) rfl
 ·intro i hi _ ih
  have hw := wrap_succ i (by omega)
  have ih := ih ()
  have hd := dnames_take hi
  rw [hd] at ih
  have hlen : (dnames (l.take i)).length + 1 ≤ 2147483648 := by simp [dnames]; omega
  generalize dnames (l.take i) = z at *
  simp [hi, hw, hlen]
  simpa using ih
 ·intro _
  simp
end
end PI.Sc
set_option maxRecDepth 100000
set_option linter.unusedSimpArgs false
set_option linter.unusedVariables false
namespace PI.Sc
open Go (IntKind BinOp UnOp)
open Short
theorem State.ind {P : State → Prop} (h : ∀ s : State, (∀ a ∈ s.autos, ∀ x ∈ a, P x) → P s) : ∀ s, P s := by
 intro s
 refine State.rec (motive_1 := P) (motive_2 := fun l : List (List State) => ∀ a ∈ l, ∀ x ∈ a, P x) (motive_3 := fun l : List State => ∀ x ∈ l, P x) ?_ ?_ ?_ ?_ ?_ s
 ·intro n l e a u w ih; exact h _ ih
 ·simp
 ·intro a l h1 h2 b hb x hx
  rcases List.mem_cons.1 hb with rfl | hb
  ·exact h1 x hx
  ·exact h2 b hb x hx
 ·simp
 ·intro x l h1 h2 y hy
  rcases List.mem_cons.1 hy with rfl | hy
  ·exact h1
  ·exact h2 y hy
theorem Defs.len {s : Place} {d xs : List Str} (h : Defs s d xs) : xs.length ≤ s.vis.length := len_sub _ _ h.2 fun x hx => (h.1 x hx).1
end PI.Sc
set_option maxRecDepth 100000
set_option linter.unusedSimpArgs false
set_option linter.unusedVariables false
namespace PI.Sc
open Go (IntKind BinOp UnOp)
open Short
theorem State.parts_eq (x : State) : x.parts = 1 + total Decl.parts x.locals + total Eqn.parts x.eqs + total Trn.parts x.unl + total Trn.parts x.til + partsA x.autos := by
 cases x; simp only [State.parts, State.locals_mk, State.eqs_mk, State.autos_mk, State.unl_mk, State.til_mk]
def Sub (d vis : List Str) : Prop := d.Nodup ∧ ∀ y ∈ d, y ∈ vis
theorem Sub.len {d vis : List Str} (h : Sub d vis) : d.length ≤ vis.length := len_sub _ _ h.1 h.2
theorem Sub.app {s : Place} {d xs : List Str} (h : Sub d s.vis) (hx : Defs s d xs) : Sub (d ++ xs) s.vis := by
 refine ⟨nodup_app.2 ⟨h.1, hx.2, fun x hm => (hx.1 x hm).2.2⟩, fun y hy => ?_⟩
 rcases List.mem_append.1 hy with h1 | h1
 ·exact h.2 y h1
 ·exact (hx.1 y h1).1
end PI.Sc
set_option maxRecDepth 100000
set_option linter.unusedSimpArgs false
set_option linter.unusedVariables false
namespace PI.Sc
open Go (IntKind BinOp UnOp)
open Short
section
variable {L : Nat → Option PFunc} (hL : ∀ k f, LS k = some f → L k = some f)
include hL
theorem ref_vars (n : Node) (h1 : n.ins.length ≤ 1500) (h2 : n.outs.length ≤ 1500) (h3 : n.locals.length ≤ 1500) (h : List PObj) : callL L 12 [eNode n] h = some (.list true ((vars n).map eDecl), h) := by
 refine callL_wp (hL 12 _ rfl) rfl ?_
 have q1 : n.ins.length ≤ 2147483648 := by omega
 have q2 : n.ins.length + n.outs.length ≤ 2147483648 := by omega
 have q3 : n.ins.length + (n.outs.length + n.locals.length) ≤ 2147483648 := by omega
 have q4 : n.ins.length + n.outs.length + n.locals.length ≤ 2147483648 := by omega
 have hh : headOk 3 (n.ins.map eDecl ++ n.outs.map eDecl) = true := by rw [← List.map_append]; exact head_Decl _
 simp [f_ref10_Vars, q1, q2, q3, q4, vars, hh]
end
end PI.Sc
set_option maxRecDepth 100000
set_option linter.unusedSimpArgs false
set_option linter.unusedVariables false
namespace PI.Sc
open Go (IntKind BinOp UnOp)
open Short
end PI.Sc
set_option maxRecDepth 100000
set_option linter.unusedSimpArgs false
set_option linter.unusedVariables false
namespace PI.Sc
open Go (IntKind BinOp UnOp)
open Short
structure DF (d : Decl) : Prop where
 type : I64 d.type
 clock : d.clock.length ≤ 140737488355328
 name : d.name.length ≤ 9223372036854775807
 on : ∀ o ∈ d.clock, I64 o.t
structure QF (q : Eqn) : Prop where
 left : q.left.length ≤ 140737488355328
 right : EW q.right
inductive SF : State → Prop
 | mk (s : State) (locals : s.locals.length ≤ 140737488355328) (ls : ∀ d ∈ s.locals, DF d) (eqs : s.eqs.length ≤ 140737488355328) (es : ∀ q ∈ s.eqs, QF q) (unl : s.unl.length ≤ 140737488355328) (us : ∀ t ∈ s.unl, EW t.cond) (til : s.til.length ≤ 140737488355328) (ts : ∀ t ∈ s.til, EW t.cond) (autos : s.autos.length ≤ 140737488355328) (as : ∀ a ∈ s.autos, a.length ≤ 140737488355328) (ss : ∀ a ∈ s.autos, ∀ x ∈ a, SF x) : SF s
theorem SF.locals {s : State} : SF s → s.locals.length ≤ 140737488355328 | .mk _ h .. => h
theorem SF.ls {s : State} : SF s → ∀ d ∈ s.locals, DF d | .mk _ _ h .. => h
theorem SF.eqs {s : State} : SF s → s.eqs.length ≤ 140737488355328 | .mk _ _ _ h .. => h
theorem SF.es {s : State} : SF s → ∀ q ∈ s.eqs, QF q | .mk _ _ _ _ h .. => h
theorem SF.unl {s : State} : SF s → s.unl.length ≤ 140737488355328 | .mk _ _ _ _ _ h .. => h
theorem SF.us {s : State} : SF s → ∀ t ∈ s.unl, EW t.cond | .mk _ _ _ _ _ _ h .. => h
theorem SF.til {s : State} : SF s → s.til.length ≤ 140737488355328 | .mk _ _ _ _ _ _ _ h .. => h
theorem SF.ts {s : State} : SF s → ∀ t ∈ s.til, EW t.cond | .mk _ _ _ _ _ _ _ _ h .. => h
theorem SF.autos {s : State} : SF s → s.autos.length ≤ 140737488355328 | .mk _ _ _ _ _ _ _ _ _ h .. => h
theorem SF.as {s : State} : SF s → ∀ a ∈ s.autos, a.length ≤ 140737488355328 | .mk _ _ _ _ _ _ _ _ _ _ h _ => h
theorem SF.ss {s : State} : SF s → ∀ a ∈ s.autos, ∀ x ∈ a, SF x | .mk _ _ _ _ _ _ _ _ _ _ _ h => h
structure AsF (l : List (List State)) : Prop where
 len : l.length ≤ 140737488355328
 as : ∀ a ∈ l, a.length ≤ 140737488355328
 ss : ∀ a ∈ l, ∀ x ∈ a, SF x
theorem SF.asF {s : State} (h : SF s) : AsF s.autos := ⟨h.autos, h.as, h.ss⟩
structure NF (n : Node) : Prop where
 ins : n.ins.length ≤ 140737488355328
 is : ∀ d ∈ n.ins, DF d
 outs : n.outs.length ≤ 140737488355328
 os : ∀ d ∈ n.outs, DF d
 locals : n.locals.length ≤ 140737488355328
 ls : ∀ d ∈ n.locals, DF d
 eqs : n.eqs.length ≤ 140737488355328
 es : ∀ q ∈ n.eqs, QF q
 autos : AsF n.autos
 assume : n.assume.length ≤ 140737488355328
 as : ∀ e ∈ n.assume, EW e
 ensure : n.ensure.length ≤ 140737488355328
 gs : ∀ e ∈ n.ensure, EW e
structure PF (p : Prog) : Prop where
 enums : p.enums.length ≤ 140737488355328
 tags : ∀ u ∈ p.enums, u.tags.length ≤ 140737488355328
 nodes : p.nodes.length ≤ 140737488355328
 ns : ∀ n ∈ p.nodes, NF n
theorem quo100 (n : Nat) : Int.tdiv (n : Int) 100 = ((n / 100 : Nat) : Int) := by
 rw [Int.tdiv_eq_ediv_of_nonneg (by omega)]; omega
theorem total_one {α : Type} (f : α → Nat) : ∀ l : List α, total (fun x => 1 + f x) l = l.length + total f l
 | [] => rfl
 | x :: l => by simp only [total, total_one f l, List.length_cons]; omega
section
variable {L : Nat → Option PFunc} {Q : PExit → St → Prop}
theorem loop_weigh {γ : Type} {c : PC} {V : List PV} {g : Nat} {h : List PObj} (len : Nat) (m : Int) (T : Nat → Int) (B : Int) (M : Nat → Int → γ → List (Nat × PV)) (G : Nat → γ → Nat) (n0 : Int) (x0 : γ)
  (mono : ∀ i, i < len → T i ≤ T (i + 1)) (h0 : Cap m n0 (T 0) ∧ 0 ≤ n0 ∧ n0 ≤ B)
  (step : ∀ i, i < len → ∀ n, n < m → n = T i → 0 ≤ n → ∀ x, (∀ n' y, Cap m n' (T (i + 1)) → 0 ≤ n' → n' ≤ B → wpL L (.loop c) ⟨upd V (M (i + 1) n' y), [], G (i + 1) y, h⟩ Q) → wpL L c ⟨upd V (M i n x), [], G i x, h⟩ (loopK L c Q))
  (stop : ∀ i, i ≤ len → ∀ n, (m ≤ n ∨ i = len) → Cap m n (T len) → 0 ≤ n → n ≤ B → ∀ x, wpL L c ⟨upd V (M i n x), [], G i x, h⟩ (loopK L c Q))
  (hV : upd V (M 0 n0 x0) = V) (hG : G 0 x0 = g) : wpL L (.loop c) ⟨V, [], g, h⟩ Q := by
 have mono' : ∀ d i, i + d = len → T i ≤ T len := by
  intro d
  induction d with
  | zero => intro i hi; have : i = len := by omega
            subst this; exact Int.le_refl _
  | succ d ih => intro i hi; have h1 := mono i (by omega); have h2 := ih (i + 1) (by omega); omega
 have key : ∀ (d i : Nat), i + d = len → ∀ n, Cap m n (T i) → 0 ≤ n → n ≤ B → ∀ x, wpL L (.loop c) ⟨upd V (M i n x), [], G i x, h⟩ Q := by
  intro d
  induction d with
  | zero =>
    intro i hi n hc hn hb x
    have : i = len := by omega
    subst this
    rw [wpL_loop]
    exact stop i (Nat.le_refl _) n (.inr rfl) hc hn hb x
  | succ d ih =>
    intro i hi n hc hn hb x
    rw [wpL_loop]
    by_cases hm : n < m
    ·exact step i (by omega) n hm (hc.2 hm) hn x (fun n' y h1 h2 h3 => ih (i + 1) (by omega) n' h1 h2 h3 y)
    ·refine stop i (by omega) n (.inl (by omega)) ?_ hn hb x
     have := mono' (d + 1) i hi
     unfold Cap at *; omega
 have := key len 0 (by omega) n0 h0.1 h0.2.1 h0.2.2 x0
 rwa [hV, hG] at this
end
section
variable {L : Nat → Option PFunc} (hL : ∀ k f, LS k = some f → L k = some f)
include hL
theorem ref_eweigh (e : Expr) : EW e → ∀ (m : Int), 1 ≤ m → m ≤ 1500 → ∀ h, callL L 95 [eExpr e, .int .i64 m] h = some (.int .i64 (if (e.parts : Int) < m then e.parts else m), h) := by
 induction e using Expr.ind with
 | h e ih =>
 intro he m hm1 hm2 h
 refine callL_wp (hL 95 _ rfl) rfl ?_
 obtain ⟨_, _, hal⟩ := he.self
 have hpe := parts_eq e
 simp [f_ref06_Weigh]
 refine loop_weigh e.args.length m (fun i => 1 + (total Expr.parts (e.args.take i) : Nat)) 1501 (fun i n (_ : Unit) => [(4, .int .i64 n), (5, .int .i64 i)]) (fun _ _ => 1) 1 () ?_ ?_ ?_ ?_ rfl rfl
 ·intro i hi
  have := total_take Expr.parts hi
  simp only [this]; omega
 ·refine ⟨?_, by omega, by omega⟩
  simp [total, Cap.refl]
 ·intro i hi n hn hT h0 x ih2
  have hw := wrap_succ i (by omega)
  have ht := total_take Expr.parts hi
  have hT : n = 1 + (total Expr.parts (e.args.take i) : Nat) := hT
  have hc := ih e.args[i] (List.getElem_mem hi) (he.arg (List.getElem_mem hi)) (m - n) (by omega) (by omega) []
  have hw1 : IntKind.i64.wrap (m - n) = m - n := wrap_i64 _ (by omega) (by omega)
  have ih2 := ih2 (n + (if (e.args[i].parts : Int) < m - n then (e.args[i].parts : Int) else m - n)) ()
  rw [ht] at ih2
  generalize e.args[i].parts = q at *
  generalize total Expr.parts (e.args.take i) = t at *
  have ih2 := ih2 (by unfold Cap; split <;> omega) (by split <;> omega) (by split <;> omega)
  have hr : 0 ≤ (if (q : Int) < m - n then (q : Int) else m - n) ∧ (if (q : Int) < m - n then (q : Int) else m - n) ≤ 1500 := by split <;> omega
  generalize (if (q : Int) < m - n then (q : Int) else m - n) = r at *
  have hw2 : IntKind.i64.wrap (n + r) = n + r := wrap_i64 _ (by omega) (by omega)
  simp [hi, hn, hw, hw1, hw2, hc]
  simpa using ih2
 ·intro i hi n hx hc h0 hb x
  simp only [List.take_length] at hc
  have hT : (1 : Int) + (total Expr.parts e.args : Nat) = e.parts := by omega
  rw [hT] at hc
  have hres : (if m < n then m else n) = (if (e.parts : Int) < m then (e.parts : Int) else m) := by
   unfold Cap at hc
   split <;> split <;> omega
  have hex : ¬ (i < e.args.length ∧ n < m) := by omega
  by_cases h1 : i < e.args.length
  ·have h2 : ¬ n < m := by omega
   simp [h1, h2, minmaxv, hres]
  ·have h1i : ¬ (i : Int) < e.args.length := by omega
   simp [h1, h1i, minmaxv, hres]
theorem ref_wdecls (l : List Decl) (hl : l.length ≤ 140737488355328) (hd : ∀ d ∈ l, DF d) (m : Int) (hm1 : 1 ≤ m) (hm2 : m ≤ 1500) (o : Bool) (h : List PObj) : ∃ n : Int, callL L 52 [.list o (l.map eDecl), .int .i64 m] h = some (.int .i64 n, h) ∧ Cap m n (total Decl.parts l) ∧ 0 ≤ n ∧ n ≤ 100000000000000000 := by
 suffices H : ∃ r, callL L 52 [.list o (l.map eDecl), .int .i64 m] h = some r ∧ ∃ n : Int, r = (.int .i64 n, h) ∧ Cap m n (total Decl.parts l) ∧ 0 ≤ n ∧ n ≤ 100000000000000000 by
  obtain ⟨r, h1, n, rfl, h2⟩ := H
  exact ⟨n, h1, h2⟩
 refine callL_wpP (hL 52 _ rfl) rfl ?_
 have hto : total Decl.parts l = l.length + total (fun d : Decl => d.clock.length + d.name.length / 100) l := by
  rw [← total_one]
  congr 1
  funext d; unfold Decl.parts; omega
 simp [f_ref10_weighDecls]
 refine loop_weigh l.length m (fun i => (l.length : Int) + (total (fun d : Decl => d.clock.length + d.name.length / 100) (l.take i) : Nat)) 100000000000000000 (fun i n (_ : Unit) => [(3, .int .i64 n), (4, .int .i64 i)]) (fun _ _ => 0) l.length () ?_ ?_ ?_ ?_ rfl rfl
 ·intro i hi
  have := total_take (fun d : Decl => d.clock.length + d.name.length / 100) hi
  simp only [this]; omega
 ·refine ⟨?_, by omega, by omega⟩
  simp [total, Cap.refl]
 ·intro i hi n hn hT h0 x ih2
  have hw := wrap_succ i (by omega)
  have ht := total_take (fun d : Decl => d.clock.length + d.name.length / 100) hi
  have hdf := hd _ (List.getElem_mem hi)
  have hc1 := hdf.clock
  have hc2 := hdf.name
  have hT : n = (l.length : Int) + (total (fun d : Decl => d.clock.length + d.name.length / 100) (l.take i) : Nat) := hT
  have ih2 := ih2 (n + l[i].clock.length + (l[i].name.length / 100 : Nat)) ()
  rw [ht] at ih2
  have ih2 := ih2 (by rw [hT]; have : (l.length : Int) + (total (fun d : Decl => d.clock.length + d.name.length / 100) (l.take i) : Nat) + l[i].clock.length + (l[i].name.length / 100 : Nat) = (l.length : Int) + ((total (fun d : Decl => d.clock.length + d.name.length / 100) (l.take i) + (l[i].clock.length + l[i].name.length / 100) : Nat) : Int) := by omega
                      rw [this]; exact Cap.refl _ _) (by omega) (by omega)
  have hw1 : IntKind.i64.wrap (n + (l[i].clock.length : Int)) = n + l[i].clock.length := wrap_i64 _ (by omega) (by omega)
  have hq := quo100 l[i].name.length
  have hw2 : IntKind.i64.wrap ((l[i].name.length / 100 : Nat) : Int) = ((l[i].name.length / 100 : Nat) : Int) := wrap_i64 _ (by omega) (by omega)
  have hw3 : IntKind.i64.wrap (n + (l[i].clock.length : Int) + ((l[i].name.length / 100 : Nat) : Int)) = n + l[i].clock.length + (l[i].name.length / 100 : Nat) := wrap_i64 _ (by omega) (by omega)
  generalize l[i].name.length / 100 = q at *
  simp [hi, hn, hw, hw1, hq, hw2, hw3]
  simpa using ih2
 ·intro i hi n hx hc h0 hb x
  simp only [List.take_length] at hc
  rw [show (l.length : Int) + (total (fun d : Decl => d.clock.length + d.name.length / 100) l : Nat) = (total Decl.parts l : Nat) by omega] at hc
  have hfin : endP [.var 2] (fun r => ∃ n : Int, r = (.int .i64 n, h) ∧ Cap m n (total Decl.parts l) ∧ 0 ≤ n ∧ n ≤ 100000000000000000) .ret ⟨[.list false (l.map eDecl), .int .i64 m, .int .i64 n, .int .i64 n, .int .i64 i], [], 0, h⟩ := ⟨.inr rfl, .int .i64 n, rfl, n, rfl, hc, h0, hb⟩
  by_cases h1 : i < l.length
  ·have h2 : ¬ n < m := by omega
   simp [h1, h2]
   exact hfin
  ·have h1i : ¬ (i : Int) < l.length := by omega
   simp [h1, h1i]
   exact hfin
theorem ref_wtrans (l : List Trn) (hl : l.length ≤ 140737488355328) (hd : ∀ x ∈ l, EW x.cond) (m : Int) (hm1 : 1 ≤ m) (hm2 : m ≤ 1500) (o : Bool) (h : List PObj) : ∃ n : Int, callL L 96 [.list o (l.map eTrn), .int .i64 m] h = some (.int .i64 n, h) ∧ Cap m n (total Trn.parts l) ∧ 0 ≤ n ∧ n ≤ 100000000000000000 := by
 suffices H : ∃ r, callL L 96 [.list o (l.map eTrn), .int .i64 m] h = some r ∧ ∃ n : Int, r = (.int .i64 n, h) ∧ Cap m n (total Trn.parts l) ∧ 0 ≤ n ∧ n ≤ 100000000000000000 by
  obtain ⟨r, h1, n, rfl, h2⟩ := H
  exact ⟨n, h1, h2⟩
 refine callL_wpP (hL 96 _ rfl) rfl ?_
 have hto : total Trn.parts l = l.length + total (fun t : Trn => t.cond.parts) l := by
  rw [← total_one]; rfl
 simp [f_ref10_weighTrans]
 refine loop_weigh l.length m (fun i => (l.length : Int) + (total (fun t : Trn => t.cond.parts) (l.take i) : Nat)) 100000000000000000 (fun i n (_ : Unit) => [(3, .int .i64 n), (4, .int .i64 i)]) (fun _ _ => 0) l.length () ?_ ?_ ?_ ?_ rfl rfl
 ·intro i hi
  have := total_take (fun t : Trn => t.cond.parts) hi
  simp only [this]; omega
 ·refine ⟨?_, by omega, by omega⟩
  simp [total, Cap.refl]
 ·intro i hi n hn hT h0 x ih2
  have hw := wrap_succ i (by omega)
  have ht := total_take (fun t : Trn => t.cond.parts) hi
  have hdf := hd _ (List.getElem_mem hi)
  have hT : n = (l.length : Int) + (total (fun t : Trn => t.cond.parts) (l.take i) : Nat) := hT
  have hc := ref_eweigh hL l[i].cond hdf m hm1 hm2 []
  have ih2 := ih2 (n + (if (l[i].cond.parts : Int) < m then (l[i].cond.parts : Int) else m)) ()
  rw [ht] at ih2
  generalize total (fun t : Trn => t.cond.parts) (l.take i) = T at *
  generalize l[i].cond.parts = q at *
  have hr : 0 ≤ (if (q : Int) < m then (q : Int) else m) ∧ (if (q : Int) < m then (q : Int) else m) ≤ 1500 := by split <;> omega
  have ih2 := ih2 (by unfold Cap; split <;> omega) (by omega) (by omega)
  generalize (if (q : Int) < m then (q : Int) else m) = r at *
  have hw2 : IntKind.i64.wrap (n + r) = n + r := wrap_i64 _ (by omega) (by omega)
  simp [hi, hn, hw, hc, hw2]
  simpa using ih2
 ·intro i hi n hx hc h0 hb x
  simp only [List.take_length] at hc
  rw [show (l.length : Int) + (total (fun t : Trn => t.cond.parts) l : Nat) = (total Trn.parts l : Nat) by omega] at hc
  have hfin : endP [.var 2] (fun r => ∃ n : Int, r = (.int .i64 n, h) ∧ Cap m n (total Trn.parts l) ∧ 0 ≤ n ∧ n ≤ 100000000000000000) .ret ⟨[.list false (l.map eTrn), .int .i64 m, .int .i64 n, .int .i64 n, .int .i64 i], [], 0, h⟩ := ⟨.inr rfl, .int .i64 n, rfl, n, rfl, hc, h0, hb⟩
  by_cases h1 : i < l.length
  ·have h2 : ¬ n < m := by omega
   simp [h1, h2]
   exact hfin
  ·have h1i : ¬ (i : Int) < l.length := by omega
   simp [h1, h1i]
   exact hfin
theorem ref_wexprs (l : List Expr) (hl : l.length ≤ 140737488355328) (hd : ∀ x ∈ l, EW x) (m : Int) (hm1 : 1 ≤ m) (hm2 : m ≤ 1500) (o : Bool) (h : List PObj) : ∃ n : Int, callL L 54 [.list o (l.map eExpr), .int .i64 m] h = some (.int .i64 n, h) ∧ Cap m n (total (fun e : Expr => 1 + Expr.parts e) l) ∧ 0 ≤ n ∧ n ≤ 100000000000000000 := by
 suffices H : ∃ r, callL L 54 [.list o (l.map eExpr), .int .i64 m] h = some r ∧ ∃ n : Int, r = (.int .i64 n, h) ∧ Cap m n (total (fun e : Expr => 1 + Expr.parts e) l) ∧ 0 ≤ n ∧ n ≤ 100000000000000000 by
  obtain ⟨r, h1, n, rfl, h2⟩ := H
  exact ⟨n, h1, h2⟩
 refine callL_wpP (hL 54 _ rfl) rfl ?_
 have hto : total (fun e : Expr => 1 + Expr.parts e) l = l.length + total Expr.parts l := by
  rw [← total_one]
 simp [f_ref10_weighExprs]
 refine loop_weigh l.length m (fun i => (l.length : Int) + (total Expr.parts (l.take i) : Nat)) 100000000000000000 (fun i n (_ : Unit) => [(3, .int .i64 n), (4, .int .i64 i)]) (fun _ _ => 0) l.length () ?_ ?_ ?_ ?_ rfl rfl
 ·intro i hi
  have := total_take Expr.parts hi
  simp only [this]; omega
 ·refine ⟨?_, by omega, by omega⟩
  simp [total, Cap.refl]
 ·intro i hi n hn hT h0 x ih2
  have hw := wrap_succ i (by omega)
  have ht := total_take Expr.parts hi
  have hdf := hd _ (List.getElem_mem hi)
  have hT : n = (l.length : Int) + (total Expr.parts (l.take i) : Nat) := hT
  have hc := ref_eweigh hL l[i] hdf m hm1 hm2 []
  have ih2 := ih2 (n + (if (l[i].parts : Int) < m then (l[i].parts : Int) else m)) ()
  rw [ht] at ih2
  generalize total Expr.parts (l.take i) = T at *
  generalize l[i].parts = q at *
  have hr : 0 ≤ (if (q : Int) < m then (q : Int) else m) ∧ (if (q : Int) < m then (q : Int) else m) ≤ 1500 := by split <;> omega
  have ih2 := ih2 (by unfold Cap; split <;> omega) (by omega) (by omega)
  generalize (if (q : Int) < m then (q : Int) else m) = r at *
  have hw2 : IntKind.i64.wrap (n + r) = n + r := wrap_i64 _ (by omega) (by omega)
  simp [hi, hn, hw, hc, hw2]
  simpa using ih2
 ·intro i hi n hx hc h0 hb x
  simp only [List.take_length] at hc
  rw [show (l.length : Int) + (total Expr.parts l : Nat) = (total (fun e : Expr => 1 + Expr.parts e) l : Nat) by omega] at hc
  have hfin : endP [.var 2] (fun r => ∃ n : Int, r = (.int .i64 n, h) ∧ Cap m n (total (fun e : Expr => 1 + Expr.parts e) l) ∧ 0 ≤ n ∧ n ≤ 100000000000000000) .ret ⟨[.list false (l.map eExpr), .int .i64 m, .int .i64 n, .int .i64 n, .int .i64 i], [], 0, h⟩ := ⟨.inr rfl, .int .i64 n, rfl, n, rfl, hc, h0, hb⟩
  by_cases h1 : i < l.length
  ·have h2 : ¬ n < m := by omega
   simp [h1, h2]
   exact hfin
  ·have h1i : ¬ (i : Int) < l.length := by omega
   simp [h1, h1i]
   exact hfin
theorem ref_weqs (l : List Eqn) (hl : l.length ≤ 140737488355328) (hd : ∀ x ∈ l, QF x) (m : Int) (hm1 : 1 ≤ m) (hm2 : m ≤ 1500) (o : Bool) (h : List PObj) : ∃ n : Int, callL L 53 [.list o (l.map eEqn), .int .i64 m] h = some (.int .i64 n, h) ∧ Cap m n (total Eqn.parts l) ∧ 0 ≤ n ∧ n ≤ 100000000000000000 := by
 suffices H : ∃ r, callL L 53 [.list o (l.map eEqn), .int .i64 m] h = some r ∧ ∃ n : Int, r = (.int .i64 n, h) ∧ Cap m n (total Eqn.parts l) ∧ 0 ≤ n ∧ n ≤ 100000000000000000 by
  obtain ⟨r, h1, n, rfl, h2⟩ := H
  exact ⟨n, h1, h2⟩
 refine callL_wpP (hL 53 _ rfl) rfl ?_
 have hto : total Eqn.parts l = l.length + total (fun q : Eqn => q.left.length + q.right.parts) l := by
  rw [← total_one]
  congr 1
  funext d; try (unfold Eqn.parts; omega)
 simp [f_ref10_weighEqs]
 refine loop_weigh l.length m (fun i => (l.length : Int) + (total (fun q : Eqn => q.left.length + q.right.parts) (l.take i) : Nat)) 100000000000000000 (fun i n (_ : Unit) => [(3, .int .i64 n), (4, .int .i64 i)]) (fun _ _ => 0) l.length () ?_ ?_ ?_ ?_ rfl rfl
 ·intro i hi
  have := total_take (fun q : Eqn => q.left.length + q.right.parts) hi
  simp only [this]; omega
 ·refine ⟨?_, by omega, by omega⟩
  simp [total, Cap.refl]
 ·intro i hi n hn hT h0 x ih2
  have hw := wrap_succ i (by omega)
  have ht := total_take (fun q : Eqn => q.left.length + q.right.parts) hi
  have hdf := hd _ (List.getElem_mem hi)
  have hlf := hdf.left
  have hT : n = (l.length : Int) + (total (fun q : Eqn => q.left.length + q.right.parts) (l.take i) : Nat) := hT
  have hc := ref_eweigh hL l[i].right hdf.right m hm1 hm2 []
  have ih2 := ih2 (n + l[i].left.length + (if (l[i].right.parts : Int) < m then (l[i].right.parts : Int) else m)) ()
  rw [ht] at ih2
  generalize total (fun q : Eqn => q.left.length + q.right.parts) (l.take i) = T at *
  generalize l[i].right.parts = q at *
  have hr : 0 ≤ (if (q : Int) < m then (q : Int) else m) ∧ (if (q : Int) < m then (q : Int) else m) ≤ 1500 := by split <;> omega
  have ih2 := ih2 (by unfold Cap; split <;> omega) (by omega) (by omega)
  generalize (if (q : Int) < m then (q : Int) else m) = r at *
  have hw1 : IntKind.i64.wrap (n + (l[i].left.length : Int)) = n + l[i].left.length := wrap_i64 _ (by omega) (by omega)
  have hw2 : IntKind.i64.wrap (n + (l[i].left.length : Int) + r) = n + l[i].left.length + r := wrap_i64 _ (by omega) (by omega)
  simp [hi, hn, hw, hc, hw1, hw2]
  simpa using ih2
 ·intro i hi n hx hc h0 hb x
  simp only [List.take_length] at hc
  rw [show (l.length : Int) + (total (fun q : Eqn => q.left.length + q.right.parts) l : Nat) = (total Eqn.parts l : Nat) by omega] at hc
  have hfin : endP [.var 2] (fun r => ∃ n : Int, r = (.int .i64 n, h) ∧ Cap m n (total Eqn.parts l) ∧ 0 ≤ n ∧ n ≤ 100000000000000000) .ret ⟨[.list false (l.map eEqn), .int .i64 m, .int .i64 n, .int .i64 n, .int .i64 i], [], 0, h⟩ := ⟨.inr rfl, .int .i64 n, rfl, n, rfl, hc, h0, hb⟩
  by_cases h1 : i < l.length
  ·have h2 : ¬ n < m := by omega
   simp [h1, h2]
   exact hfin
  ·have h1i : ¬ (i : Int) < l.length := by omega
   simp [h1, h1i]
   exact hfin
end
end PI.Sc
set_option maxRecDepth 100000
set_option linter.unusedSimpArgs false
set_option linter.unusedVariables false
namespace PI.Sc
open Go (IntKind BinOp UnOp)
open Short
theorem partsA_one (l : List (List State)) : partsA l = l.length + total (fun a => total State.parts a) l := by
 rw [partsA_eq, ← total_one]
section
variable {L : Nat → Option PFunc} (hL : ∀ k f, LS k = some f → L k = some f)
include hL
def WA (L : Nat → Option PFunc) (l : List (List State)) : Prop := ∀ (m : Int), 1 ≤ m → m ≤ 1500 → ∀ (o : Bool) (h : List PObj), ∃ n : Int, callL L 55 [.list o (l.map eAuto), .int .i64 m] h = some (.int .i64 n, h) ∧ Cap m n (partsA l) ∧ 0 ≤ n ∧ n ≤ m + 500000000000000000
theorem ref_wautos' (l : List (List State)) (hl : AsF l) (ih : ∀ a ∈ l, ∀ x ∈ a, WA L x.autos) : WA L l := by
 intro m hm1 hm2 o h
 suffices H : ∃ r, callL L 55 [.list o (l.map eAuto), .int .i64 m] h = some r ∧ ∃ n : Int, r = (.int .i64 n, h) ∧ Cap m n (partsA l) ∧ 0 ≤ n ∧ n ≤ m + 500000000000000000 by
  obtain ⟨r, h1, n, rfl, h2⟩ := H
  exact ⟨n, h1, h2⟩
 refine callL_wpP (hL 55 _ rfl) rfl ?_
 have hto := partsA_one l
 have hll := hl.len
 simp [f_ref10_weighAutos]
 refine loop_weigh l.length m (fun i => (l.length : Int) + (total (fun a => total State.parts a) (l.take i) : Nat)) (m + 500000000000000000) (fun i n (x : (PV × PV) × Nat) => [(3, .int .i64 n), (4, .int .i64 i), (5, x.1.1), (6, x.1.2)]) (fun _ x => x.2) l.length ((.dead, .dead), 0) ?_ ?_ ?_ ?_ rfl rfl
 ·intro i hi
  have := total_take (fun a => total State.parts a) hi
  simp only [this]; omega
 ·refine ⟨?_, by omega, by omega⟩
  simp [total, Cap.refl]
 ·intro i hi n hn hT h0 x ih2
  have hw := wrap_succ i (by omega)
  have ht := total_take (fun a => total State.parts a) hi
  have hT : n = (l.length : Int) + (total (fun a => total State.parts a) (l.take i) : Nat) := hT
  have hal := hl.as _ (List.getElem_mem hi)
  simp [hi, hn]
  refine loop_weigh l[i].length m (fun j => n + (total State.parts (l[i].take j) : Nat)) (m + 500000000000000000) (fun j n' (x : PV × Nat) => [(3, .int .i64 n'), (5, .int .i64 j), (6, x.1)]) (fun _ x => x.2) n (x.1.2, x.2) ?_ ?_ ?_ ?_ rfl rfl
  ·intro j hj
   have := total_take State.parts hj
   simp only [this]; omega
  ·refine ⟨?_, by omega, by omega⟩
   simp [total, Cap.refl]
  ·intro j hj n' hn' hT' h0' y ih3
   have hw' := wrap_succ j (by omega)
   have ht' := total_take State.parts hj
   have hT' : n' = n + (total State.parts (l[i].take j) : Nat) := hT'
   have hsf := hl.ss _ (List.getElem_mem hi) _ (List.getElem_mem hj)
   have hpe := State.parts_eq l[i][j]
   obtain ⟨w1, c1, q1, a1, b1⟩ := ref_wdecls hL l[i][j].locals hsf.locals hsf.ls m hm1 hm2 false []
   obtain ⟨w2, c2, q2, a2, b2⟩ := ref_weqs hL l[i][j].eqs hsf.eqs hsf.es m hm1 hm2 false []
   obtain ⟨w3, c3, q3, a3, b3⟩ := ref_wtrans hL l[i][j].unl hsf.unl hsf.us m hm1 hm2 false []
   obtain ⟨w4, c4, q4, a4, b4⟩ := ref_wtrans hL l[i][j].til hsf.til hsf.ts m hm1 hm2 false []
   have z0 : IntKind.i64.wrap (n' + 1) = n' + 1 := wrap_i64 _ (by omega) (by omega)
   have z1 : IntKind.i64.wrap (n' + 1 + w1) = n' + 1 + w1 := wrap_i64 _ (by omega) (by omega)
   have z2 : IntKind.i64.wrap (n' + 1 + w1 + w2) = n' + 1 + w1 + w2 := wrap_i64 _ (by omega) (by omega)
   have z3 : IntKind.i64.wrap (n' + 1 + w1 + w2 + w3) = n' + 1 + w1 + w2 + w3 := wrap_i64 _ (by omega) (by omega)
   have hS : ∃ S : Int, S = n' + 1 + w1 + w2 + w3 + w4 := ⟨_, rfl⟩
   obtain ⟨S, hS⟩ := hS
   have z4 : IntKind.i64.wrap (n' + 1 + w1 + w2 + w3 + w4) = S := by rw [hS]; exact wrap_i64 _ (by omega) (by omega)
   rw [ht'] at ih3
   have hSc : Cap m S (n + (total State.parts (l[i].take j) : Nat) + (1 + total Decl.parts l[i][j].locals + total Eqn.parts l[i][j].eqs + total Trn.parts l[i][j].unl + total Trn.parts l[i][j].til : Nat)) := by
    unfold Cap at *; omega
   by_cases hSm : S < m
   ·have hzs : IntKind.i64.wrap (m - S) = m - S := wrap_i64 _ (by omega) (by omega)
    obtain ⟨w5, c5, q5, a5, b5⟩ := ih _ (List.getElem_mem hi) _ (List.getElem_mem hj) (m - S) (by omega) (by omega) false []
    have z5 : IntKind.i64.wrap (S + w5) = S + w5 := wrap_i64 _ (by omega) (by omega)
    have ih3 := fun y => ih3 (S + w5) y (by unfold Cap at *; omega) (by omega) (by omega)
    simp [hi, hj, hn', hw', c1, c2, c3, c4, z0, z1, z2, z3, z4, hSm, hzs, c5, z5]
    simpa using ih3 (_, _)
   ·have ih3 := fun y => ih3 S y (by unfold Cap at *; omega) (by omega) (by omega)
    simp [hi, hj, hn', hw', c1, c2, c3, c4, z0, z1, z2, z3, z4, hSm]
    simpa using ih3 (_, _)
  ·intro j hj n' hx hc h0' hb y
   simp only [List.take_length] at hc
   rw [ht] at ih2
   have ih2 := fun y => ih2 n' y (by rw [show (l.length : Int) + ((total (fun a => total State.parts a) (l.take i) + total State.parts l[i] : Nat) : Int) = n + (total State.parts l[i] : Nat) by omega]; exact hc) h0' hb
   by_cases h1 : j < l[i].length
   ·have h2 : ¬ n' < m := by omega
    simp [hi, h1, h2, hw]
    simpa using ih2 ((_, _), _)
   ·have h1i : ¬ (j : Int) < l[i].length := by omega
    simp [hi, h1, h1i, hw]
    simpa using ih2 ((_, _), _)
 ·intro i hi n hx hc h0 hb x
  simp only [List.take_length] at hc
  rw [show (l.length : Int) + (total (fun a => total State.parts a) l : Nat) = (partsA l : Nat) by omega] at hc
  have hfin : endP [.var 2] (fun r => ∃ n : Int, r = (.int .i64 n, h) ∧ Cap m n (partsA l) ∧ 0 ≤ n ∧ n ≤ m + 500000000000000000) .ret ⟨[.list false (l.map eAuto), .int .i64 m, .int .i64 n, .int .i64 n, .int .i64 i, x.1.1, x.1.2], [], x.2, h⟩ := ⟨.inr rfl, .int .i64 n, rfl, n, rfl, hc, h0, hb⟩
  by_cases h1 : i < l.length
  ·have h2 : ¬ n < m := by omega
   simp [h1, h2]
   exact hfin
  ·have h1i : ¬ (i : Int) < l.length := by omega
   simp [h1, h1i]
   exact hfin
theorem ref_wautos (l : List (List State)) (hl : AsF l) : WA L l := by
 refine ref_wautos' hL l hl fun a ha x hx => ?_
 have key : ∀ s : State, SF s → WA L s.autos := by
  intro s
  induction s using State.ind with
  | h s ih => intro hs; exact ref_wautos' hL s.autos hs.asF fun a ha x hx => ih a ha x hx (hs.ss a ha x hx)
 exact key x (hl.ss a ha x hx)
theorem ref_weigh (p : Prog) (hp : PF p) (h : List PObj) : ∃ n : Int, callL L 25 [eProg p, .int .i64 1500] h = some (.int .i64 n, h) ∧ Cap 1500 n (parts p) := by
 suffices H : ∃ r, callL L 25 [eProg p, .int .i64 1500] h = some r ∧ ∃ n : Int, r = (.int .i64 n, h) ∧ Cap 1500 n (parts p) by
  obtain ⟨r, h1, n, rfl, h2⟩ := H
  exact ⟨n, h1, h2⟩
 refine callL_wpP (hL 25 _ rfl) rfl ?_
 have l1 := hp.enums
 have l2 := hp.nodes
 have t1 : total Enum.parts p.enums = p.enums.length + total (fun u : Enum => u.tags.length) p.enums := by rw [← total_one]; rfl
 obtain ⟨f, hf⟩ : ∃ f : Node → Nat, ∀ n, f n = n.parts - 1 := ⟨_, fun _ => rfl⟩
 have hf1 : ∀ n : Node, n.parts = 1 + f n := by
  intro n
  have : 1 ≤ n.parts := by unfold Node.parts; omega
  rw [hf]; omega
 have t2 : total Node.parts p.nodes = p.nodes.length + total f p.nodes := by
  rw [← total_one]
  congr 1
  funext n; exact hf1 n
 have hpp : (parts p : Int) = (p.enums.length : Int) + p.nodes.length + (total (fun u : Enum => u.tags.length) p.enums : Nat) + (total f p.nodes : Nat) := by unfold parts; omega
 have hw0 : IntKind.i64.wrap ((p.enums.length : Int) + p.nodes.length) = (p.enums.length : Int) + p.nodes.length := wrap_i64 _ (by omega) (by omega)
 simp [f_ref10_Weigh, hw0]
 refine loop_weigh p.enums.length 1500 (fun i => (p.enums.length : Int) + p.nodes.length + (total (fun u : Enum => u.tags.length) (p.enums.take i) : Nat)) 1000000000000000000 (fun i n (_ : Unit) => [(4, .int .i64 n), (5, .int .i64 i)]) (fun _ _ => 1) ((p.enums.length : Int) + p.nodes.length) () ?_ ?_ ?_ ?_ rfl rfl
 ·intro i hi
  have := total_take (fun u : Enum => u.tags.length) hi
  simp only [this]; omega
 ·refine ⟨?_, by omega, by omega⟩
  simp [total, Cap.refl]
 ·intro i hi n hn hT h0 x ih2
  have hw := wrap_succ i (by omega)
  have ht := total_take (fun u : Enum => u.tags.length) hi
  have htl := hp.tags _ (List.getElem_mem hi)
  have hT : n = (p.enums.length : Int) + p.nodes.length + (total (fun u : Enum => u.tags.length) (p.enums.take i) : Nat) := hT
  have ih2 := ih2 (n + p.enums[i].tags.length) ()
  rw [ht] at ih2
  have ih2 := ih2 (by unfold Cap; omega) (by omega) (by omega)
  have hw1 : IntKind.i64.wrap (n + (p.enums[i].tags.length : Int)) = n + p.enums[i].tags.length := wrap_i64 _ (by omega) (by omega)
  simp [hi, hn, hw, hw1]
  simpa using ih2
 ·intro i hi n hx hc h0 hb x
  simp only [List.take_length] at hc
  have hgo : wpL L f_ref10_Weigh_l1 ⟨[eProg p, .int .i64 1500, .loc 0 (eProg p).cells, .int .i64 0, .int .i64 n, .int .i64 i, .int .i64 0, .dead], [], 1, h⟩ (blockK 2 (seqK L (S (R [m v4,t 3 l0]) Y) (endP [.var 3] fun r => ∃ n : Int, r = (.int .i64 n, h) ∧ Cap 1500 n (parts p)))) := by
   have hT0 : ∃ T0 : Int, T0 = (p.enums.length : Int) + p.nodes.length + (total (fun u : Enum => u.tags.length) p.enums : Nat) := ⟨_, rfl⟩
   obtain ⟨T0, hT0⟩ := hT0
   rw [← hT0] at hc hpp
   have hT0n : 0 ≤ T0 := by omega
   refine loop_weigh p.nodes.length 1500 (fun i => T0 + (total f (p.nodes.take i) : Nat)) 2000000000000000000 (fun i n (x : PV × Nat) => [(4, .int .i64 n), (6, .int .i64 i), (7, x.1)]) (fun _ x => x.2) n (.dead, 1) ?_ ?_ ?_ ?_ rfl rfl
   ·intro i hi
    have := total_take f hi
    simp only [this]; omega
   ·refine ⟨?_, by omega, by omega⟩
    simpa [total] using hc
   ·intro i hi n hn hT h0 x ih2
    have hw := wrap_succ i (by omega)
    have ht := total_take f hi
    have hnf := hp.ns _ (List.getElem_mem hi)
    have hfe : f p.nodes[i] = total Decl.parts p.nodes[i].ins + total Decl.parts p.nodes[i].outs + total Decl.parts p.nodes[i].locals + total Eqn.parts p.nodes[i].eqs + total (fun e => 1 + Expr.parts e) p.nodes[i].assume + total (fun e => 1 + Expr.parts e) p.nodes[i].ensure + partsA p.nodes[i].autos := by
     rw [hf]; unfold Node.parts; omega
    have hT : n = T0 + (total f (p.nodes.take i) : Nat) := hT
    obtain ⟨w1, c1, q1, a1, b1⟩ := ref_wdecls hL p.nodes[i].ins hnf.ins hnf.is 1500 (by omega) (by omega) false []
    obtain ⟨w2, c2, q2, a2, b2⟩ := ref_wdecls hL p.nodes[i].outs hnf.outs hnf.os 1500 (by omega) (by omega) false []
    obtain ⟨w3, c3, q3, a3, b3⟩ := ref_wdecls hL p.nodes[i].locals hnf.locals hnf.ls 1500 (by omega) (by omega) false []
    obtain ⟨w4, c4, q4, a4, b4⟩ := ref_weqs hL p.nodes[i].eqs hnf.eqs hnf.es 1500 (by omega) (by omega) false []
    obtain ⟨w5, c5, q5, a5, b5⟩ := ref_wexprs hL p.nodes[i].assume hnf.assume hnf.as 1500 (by omega) (by omega) false []
    obtain ⟨w6, c6, q6, a6, b6⟩ := ref_wexprs hL p.nodes[i].ensure hnf.ensure hnf.gs 1500 (by omega) (by omega) false []
    have z1 : IntKind.i64.wrap (n + w1) = n + w1 := wrap_i64 _ (by omega) (by omega)
    have z2 : IntKind.i64.wrap (n + w1 + w2) = n + w1 + w2 := wrap_i64 _ (by omega) (by omega)
    have z3 : IntKind.i64.wrap (n + w1 + w2 + w3) = n + w1 + w2 + w3 := wrap_i64 _ (by omega) (by omega)
    have z4 : IntKind.i64.wrap (n + w1 + w2 + w3 + w4) = n + w1 + w2 + w3 + w4 := wrap_i64 _ (by omega) (by omega)
    have z5 : IntKind.i64.wrap (n + w1 + w2 + w3 + w4 + w5) = n + w1 + w2 + w3 + w4 + w5 := wrap_i64 _ (by omega) (by omega)
    obtain ⟨S, hS⟩ : ∃ S : Int, S = n + w1 + w2 + w3 + w4 + w5 + w6 := ⟨_, rfl⟩
    have z6 : IntKind.i64.wrap (n + w1 + w2 + w3 + w4 + w5 + w6) = S := by rw [hS]; exact wrap_i64 _ (by omega) (by omega)
    have k1 := Cap.add (Cap.refl 1500 n) q1 h0 a1 h0 (by omega)
    have k2 := Cap.add k1 q2 (by omega) a2 (by omega) (by omega)
    have k3 := Cap.add k2 q3 (by omega) a3 (by omega) (by omega)
    have k4 := Cap.add k3 q4 (by omega) a4 (by omega) (by omega)
    have k5 := Cap.add k4 q5 (by omega) a5 (by omega) (by omega)
    have k6 := Cap.add k5 q6 (by omega) a6 (by omega) (by omega)
    rw [← hS] at k6
    have hSn : 0 ≤ S := by omega
    have hSb : S ≤ 1000000000000000000 := by omega
    clear k1 k2 k3 k4 k5 q1 q2 q3 q4 q5 q6
    rw [ht, hfe] at ih2
    obtain ⟨U, hU⟩ : ∃ U : Int, U = n + (total Decl.parts p.nodes[i].ins : Nat) + (total Decl.parts p.nodes[i].outs : Nat) + (total Decl.parts p.nodes[i].locals : Nat) + (total Eqn.parts p.nodes[i].eqs : Nat) + (total (fun e => 1 + Expr.parts e) p.nodes[i].assume : Nat) + (total (fun e => 1 + Expr.parts e) p.nodes[i].ensure : Nat) := ⟨_, rfl⟩
    rw [← hU] at k6
    have hUt : T0 + ((total f (p.nodes.take i) + (total Decl.parts p.nodes[i].ins + total Decl.parts p.nodes[i].outs + total Decl.parts p.nodes[i].locals + total Eqn.parts p.nodes[i].eqs + total (fun e => 1 + Expr.parts e) p.nodes[i].assume + total (fun e => 1 + Expr.parts e) p.nodes[i].ensure + partsA p.nodes[i].autos) : Nat) : Int) = U + (partsA p.nodes[i].autos : Nat) := by omega
    have hUn : 0 ≤ U := by omega
    rw [hUt] at ih2
    clear hUt hU hT hfe
    by_cases hSm : S < 1500
    ·have hzs : IntKind.i64.wrap (1500 - S) = 1500 - S := wrap_i64 _ (by omega) (by omega)
     obtain ⟨w7, c7, q7, a7, b7⟩ := ref_wautos hL p.nodes[i].autos hnf.autos (1500 - S) (by omega) (by omega) false []
     have z7 : IntKind.i64.wrap (S + w7) = S + w7 := wrap_i64 _ (by omega) (by omega)
     have hcap : Cap 1500 (S + w7) (U + (partsA p.nodes[i].autos : Nat)) := by
      clear ih2 c1 c2 c3 c4 c5 c6 c7 z1 z2 z3 z4 z5 z6 z7 hS
      unfold Cap at *; omega
     have ih2 := fun y => ih2 (S + w7) y hcap (by omega) (by omega)
     simp [hi, hn, hw, c1, c2, c3, c4, c5, c6, z1, z2, z3, z4, z5, z6, hSm, hzs, c7, z7]
     simpa using ih2 (_, _)
    ·have hcap : Cap 1500 S (U + (partsA p.nodes[i].autos : Nat)) := by
      clear ih2 c1 c2 c3 c4 c5 c6 z1 z2 z3 z4 z5 z6 hS
      unfold Cap at *; omega
     have ih2 := fun y => ih2 S y hcap (by omega) (by omega)
     simp [hi, hn, hw, c1, c2, c3, c4, c5, c6, z1, z2, z3, z4, z5, z6, hSm]
     simpa using ih2 (_, _)
   ·intro i hi n hx hc h0 hb x
    simp only [List.take_length] at hc
    rw [← hpp] at hc
    by_cases h1 : i < p.nodes.length
    ·have h2 : ¬ n < 1500 := by omega
     simp [h1, h2]
     exact ⟨.inr rfl, .int .i64 n, rfl, n, rfl, hc⟩
    ·have h1i : ¬ (i : Int) < p.nodes.length := by omega
     simp [h1, h1i]
     exact ⟨.inr rfl, .int .i64 n, rfl, n, rfl, hc⟩
  by_cases h1 : i < p.enums.length
  ·have h2 : ¬ n < 1500 := by omega
   simp [h1, h2]
   simpa using hgo
  ·have h1i : ¬ (i : Int) < p.enums.length := by omega
   simp [h1, h1i]
   simpa using hgo
end
end PI.Sc
set_option maxRecDepth 100000
set_option linter.unusedSimpArgs false
set_option linter.unusedVariables false
namespace PI.Sc
open Go (IntKind BinOp UnOp)
open Short
end PI.Sc
set_option maxRecDepth 100000
set_option linter.unusedSimpArgs false
set_option linter.unusedVariables false
namespace PI.Sc
open Go (IntKind BinOp UnOp)
open Short
theorem total_one1 {α : Type} (f : α → Nat) : ∀ l : List α, total (fun x => 1 + f x) l = l.length + total f l
 | [] => rfl
 | x :: l => by simp only [total, total_one1 f l, List.length_cons]; omega
theorem totalRight : ∀ l : List Eqn, total Expr.parts (l.map (·.right)) + (l.flatMap (·.left)).length + l.length ≤ total Eqn.parts l
 | [] => by simp [total]
 | q :: l => by
   have := totalRight l
   simp only [List.map_cons, List.flatMap_cons, List.length_append, List.length_cons, total, Eqn.parts]; omega
theorem totalCond : ∀ l : List Trn, total Expr.parts (l.map (·.cond)) ≤ total Trn.parts l
 | [] => by simp [total]
 | q :: l => by
   have := totalCond l
   simp only [List.map_cons, total, Trn.parts]; omega
mutual
theorem rightsS_parts : ∀ s : State, total Expr.parts (rightsS s) ≤ s.parts
 | .mk n l e a u w => by
   have h1 := totalRight e
   have h2 := totalCond u
   have h3 := totalCond w
   have h4 := rightsA_parts a
   simp only [rightsS, total_app, State.parts]; omega
theorem rightsL_parts : ∀ l : List State, total Expr.parts (rightsL l) ≤ partsL l
 | [] => by simp [rightsL, total]
 | s :: l => by
   have h1 := rightsS_parts s
   have h2 := rightsL_parts l
   simp only [rightsL, total_app, partsL]; omega
theorem rightsA_parts : ∀ l : List (List State), total Expr.parts (rightsA l) ≤ partsA l
 | [] => by simp [rightsA, total]
 | s :: l => by
   have h1 := rightsL_parts s
   have h2 := rightsA_parts l
   simp only [rightsA, total_app, partsA]; omega
end
theorem nodeExprs_parts (n : Node) : total Expr.parts (nodeExprs n) ≤ n.parts := by
 have h1 := totalRight n.eqs
 have h2 := rightsA_parts n.autos
 have h3 := total_one1 Expr.parts n.assume
 have h4 := total_one1 Expr.parts n.ensure
 simp only [nodeExprs, total_app, Node.parts]; omega
theorem nodeExprs_len (n : Node) : (nodeExprs n).length ≤ n.parts := Nat.le_trans (total_len Expr.parts parts_pos _) (nodeExprs_parts n)
theorem nodeExprs_mem {n : Node} {e : Expr} (h : e ∈ nodeExprs n) : e.parts ≤ n.parts := Nat.le_trans (total_mem Expr.parts h) (nodeExprs_parts n)
theorem rightsS_eq (s : State) : rightsS s = s.eqs.map (·.right) ++ rightsA s.autos ++ s.unl.map (·.cond) ++ s.til.map (·.cond) := by cases s; simp [rightsS, State.eqs, State.autos, State.unl, State.til]
section
variable {L : Nat → Option PFunc}
theorem callL_both {k : Nat} {f : PFunc} {args : List PV} {r : PV} (hf : L k = some f) (hl : args.length = f.params)
  (hw : ∀ hp, wpL L f.code ⟨args.map dem ++ List.replicate (f.nv - f.params) .dead, [], 0, hp⟩ (endK f.results (r, hp))) (hs : f.split = false := by rfl) (hpr : f.prim = none := by rfl) (hr : f.code.isRound = false := by rfl) (hp1 : f.params < 1000 := by decide) :
  (∀ h, callL L k args h = some (r, h)) ∧ ∀ h, callL L k (ownArgs none args) h = some (r, h) :=
 ⟨fun h => callL_wp hf hl (hw h) hs hpr hr, fun h => callL_wpX hf hl (hw h) hs hpr hr hp1⟩
end
section
variable {L : Nat → Option PFunc} (hL : ∀ k f, LS k = some f → L k = some f)
include hL
def RightsRun (L : Nat → Option PFunc) (s : State) : Prop := ∀ h, callL L 84 [.list false (s.eqs.map eEqn), .list false (s.autos.map eAuto)] h = some (.list true ((s.eqs.map (·.right) ++ rightsA s.autos).map eExpr), h)
theorem ref_rights1 (eqs : List Eqn) (autos : List (List State)) (hq : eqs.length ≤ 1500) (ha : autos.length ≤ 1500) (hp : (eqs.map (·.right) ++ rightsA autos).length ≤ 1500) (hw : ∀ a ∈ autos, a.length ≤ 1500 ∧ ∀ x ∈ a, x.unl.length ≤ 1500 ∧ x.til.length ≤ 1500) (hrec : ∀ a ∈ autos, ∀ x ∈ a, RightsRun L x) :
  (∀ h, callL L 84 [.list false (eqs.map eEqn), .list false (autos.map eAuto)] h = some (.list true ((eqs.map (·.right) ++ rightsA autos).map eExpr), h)) ∧ ∀ h, callL L 84 (ownArgs none [.list false (eqs.map eEqn), .list false (autos.map eAuto)]) h = some (.list true ((eqs.map (·.right) ++ rightsA autos).map eExpr), h) := by
 refine callL_both (hL 84 _ rfl) rfl fun h => ?_
 obtain ⟨D, hD⟩ : ∃ D, D = eqs.map (·.right) ++ rightsA autos := ⟨_, rfl⟩
 rw [← hD] at hp ⊢
 simp [f_ref10_rights]
 refine loop_go eqs.length (fun i (_ : Unit) => [(3, .list true ((eqs.take i).map fun q => eExpr q.right)), (4, .int .i64 i)]) (fun _ _ => h) () ?_ ?_ (by simp) rfl
 ·intro i hi _ ih
  have hw := wrap_succ i (by omega)
  have ih := ih ()
  rw [take_snoc hi, List.map_append] at ih
  have hl : ((eqs.take i).map fun q => eExpr q.right).length + 1 ≤ 2147483648 := by simp; omega
  have hh : headOk 6 ((eqs.take i).map fun q => eExpr q.right) = true := by cases eqs.take i <;> simp
  generalize (eqs.take i).map (fun q => eExpr q.right) = z at *
  simp [hi, hw, hl, hh]
  simpa using ih
 ·intro _
  simp
  refine loop_rel autos.length (fun j st => ∃ acc y6 y7 y8 y9 g, st = ⟨[.list false (eqs.map eEqn), .list false (autos.map eAuto), .list true [], .list true (acc.map eExpr), .int .i64 eqs.length, .int .i64 j, y6, y7, y8, y9], [], g, h⟩ ∧ acc ++ rightsA (autos.drop j) = D) ?_ ?_ ⟨eqs.map (·.right), .dead, .dead, .dead, .dead, 0, by simp, by rw [hD]; simp⟩
  ·rintro j hj st ⟨acc, y6, y7, y8, y9, g, rfl, hd⟩ ih
   have hwr := wrap_succ j (by omega)
   rw [List.drop_eq_getElem_cons hj] at hd
   have hmem := List.getElem_mem hj
   obtain ⟨hal, hax⟩ := hw _ hmem
   have hre := hrec _ hmem
   simp only [rightsA] at hd
   simp [hj]
   refine loop_rel autos[j].length (fun i st => ∃ acc y7 y8 y9 g, st = ⟨[.list false (eqs.map eEqn), .list false (autos.map eAuto), .list true [], .list true (acc.map eExpr), .int .i64 eqs.length, .int .i64 j, .int .i64 i, y7, y8, y9], [], g, h⟩ ∧ acc ++ (rightsL (autos[j].drop i) ++ rightsA (autos.drop (j + 1))) = D) ?_ ?_ ⟨acc, _, _, _, _, rfl, by simpa using hd⟩
   ·rintro i hi st ⟨acc, y7, y8, y9, g, rfl, hd⟩ ih2
    have hwi := wrap_succ i (by omega)
    rw [List.drop_eq_getElem_cons hi] at hd
    obtain ⟨X, hX⟩ : ∃ X, X = autos[j][i] := ⟨_, rfl⟩
    obtain ⟨hu, ht⟩ := hax _ (List.getElem_mem hi)
    have hxr := hre _ (List.getElem_mem hi) []
    rw [← hX] at hd hu ht hxr
    simp only [rightsL, rightsS_eq] at hd
    have hdl := congrArg List.length hd
    simp only [List.length_append, List.length_map] at hdl
    obtain ⟨R, hR⟩ : ∃ R, R = X.eqs.map (·.right) ++ rightsA X.autos := ⟨_, rfl⟩
    have hRl : R.length = X.eqs.length + (rightsA X.autos).length := by rw [hR]; simp
    rw [← hR] at hxr hd
    have hl1 : acc.length + R.length ≤ 2147483648 := by omega
    simp [hj, hi, ← hX, hxr, hl1]
    obtain ⟨A, hA⟩ : ∃ A : Nat → List Expr, ∀ i, A i = acc ++ R ++ (X.unl.take i).map (·.cond) := ⟨_, fun _ => rfl⟩
    obtain ⟨B, hB⟩ : ∃ B : Nat → List Expr, ∀ i, B i = A X.unl.length ++ (X.til.take i).map (·.cond) := ⟨_, fun _ => rfl⟩
    have hAl : ∀ i, (A i).length ≤ acc.length + R.length + X.unl.length := fun i => by rw [hA]; simp; omega
    have hBl : ∀ i, (B i).length ≤ acc.length + R.length + X.unl.length + X.til.length := fun i => by have := hAl X.unl.length; rw [hB]; simp; omega
    have hd : B X.til.length ++ (rightsL (autos[j].drop (i + 1)) ++ rightsA (autos.drop (j + 1))) = D := by rw [hB, hA]; simpa using hd
    refine loop_go X.unl.length (fun i (_ : Unit) => [(3, .list true ((A i).map eExpr)), (8, .int .i64 i)]) (fun _ _ => h) () ?_ ?_ (by simp [hA]) rfl
    ·intro i hi _ ih
     have hw := wrap_succ i (by omega)
     have ih := ih ()
     have hs : A (i + 1) = A i ++ [X.unl[i].cond] := by rw [hA, hA, take_snoc hi, List.map_append, ← List.append_assoc]; rfl
     rw [hs] at ih
     have hl : (A i).length + 1 ≤ 2147483648 := by have := hAl i; omega
     simp [hi, hw, hl]
     simpa using ih
    ·intro _
     simp
     refine loop_go X.til.length (fun i (_ : Unit) => [(3, .list true ((B i).map eExpr)), (9, .int .i64 i)]) (fun _ _ => h) () ?_ ?_ (by simp [hB]) rfl
     ·intro i hi _ ih
      have hw := wrap_succ i (by omega)
      have ih := ih ()
      have hs : B (i + 1) = B i ++ [X.til[i].cond] := by rw [hB, hB, take_snoc hi, List.map_append, ← List.append_assoc]; rfl
      rw [hs] at ih
      have hl : (B i).length + 1 ≤ 2147483648 := by have := hBl i; omega
      simp [hi, hw, hl]
      simpa using ih
     ·intro _
      simp [hwi]
      exact ih2 _ ⟨B X.til.length, _, _, _, _, rfl, hd⟩
   ·rintro st ⟨acc, y7, y8, y9, g, rfl, hd⟩
    rw [List.drop_eq_nil_of_le (Nat.le_refl _)] at hd
    simp only [rightsL, List.nil_append] at hd
    simp [hj, hwr]
    exact ih _ ⟨acc, _, _, _, _, _, rfl, hd⟩
  ·rintro st ⟨acc, y6, y7, y8, y9, g, rfl, hd⟩
   rw [List.drop_eq_nil_of_le (Nat.le_refl _)] at hd
   simp only [rightsA, List.append_nil] at hd
   subst hd
   simp
theorem ref_rightsS (s : State) (hs : SW s) (hp : s.parts ≤ 1500) : RightsRun L s := by
 induction s using State.ind with
 | h s ih =>
   have hpa : total Eqn.parts s.eqs + partsA s.autos ≤ s.parts := by cases s; simp only [State.parts, State.eqs, State.autos]; omega
   have h1 := totalRight s.eqs
   have h2 := rightsA_parts s.autos
   have h3 := total_len Expr.parts parts_pos (rightsA s.autos)
   refine (ref_rights1 hL s.eqs s.autos hs.eqs hs.autos (by simp only [List.length_append, List.length_map]; omega) (fun a ha => ⟨hs.as a ha, fun x hx => ⟨(hs.ss a ha x hx).unl, (hs.ss a ha x hx).til⟩⟩) (fun a ha x hx => ih a ha x hx (hs.ss a ha x hx) ?_)).1
   have h1 : partsL a ≤ partsA s.autos := by
    rw [partsA_eq, partsL_eq]
    have := total_mem (fun a => 1 + total State.parts a) ha
    omega
   have h2 : x.parts ≤ partsL a := by rw [partsL_eq]; exact total_mem _ hx
   omega
theorem ref_exprs (n : Node) (hn : NW n) (hp : n.parts ≤ 1500) (h : List PObj) : callL L 40 [eNode n] h = some (.list true ((nodeExprs n).map eExpr), h) := by
 have hpa : total Eqn.parts n.eqs + partsA n.autos ≤ n.parts := by simp only [Node.parts]; omega
 have h1 := totalRight n.eqs
 have h2 := rightsA_parts n.autos
 have h3 := total_len Expr.parts parts_pos (rightsA n.autos)
 have hlen := nodeExprs_len n
 have hc := (ref_rights1 hL n.eqs n.autos hn.eqs hn.autos.len (by simp only [List.length_append, List.length_map]; omega) (fun a ha => ⟨hn.autos.as a ha, fun x hx => ⟨(hn.autos.ss a ha x hx).unl, (hn.autos.ss a ha x hx).til⟩⟩) (fun a ha x hx => ref_rightsS hL x (hn.autos.ss a ha x hx) ?_)).2 []
 ·refine callL_wp (hL 40 _ rfl) rfl ?_
  simp only [nodeExprs, List.length_append, List.length_map] at hlen
  have q1 : n.eqs.length + (rightsA n.autos).length + n.assume.length ≤ 2147483648 := by omega
  have q2 : n.eqs.length + (rightsA n.autos).length + n.assume.length + n.ensure.length ≤ 2147483648 := by omega
  have q3 : n.eqs.length + ((rightsA n.autos).length + n.assume.length) ≤ 2147483648 := by omega
  have q4 : n.eqs.length + ((rightsA n.autos).length + (n.assume.length + n.ensure.length)) ≤ 2147483648 := by omega
  obtain ⟨R, hR⟩ : ∃ R, R = n.eqs.map (·.right) ++ rightsA n.autos := ⟨_, rfl⟩
  have hRl : R.length = n.eqs.length + (rightsA n.autos).length := by rw [hR]; simp
  have e : nodeExprs n = R ++ n.assume ++ n.ensure := by rw [hR]; rfl
  rw [← hRl] at q1 q2
  have q3 : R.length + (n.assume.length + n.ensure.length) ≤ 2147483648 := by omega
  rw [e]
  rw [← hR] at hc
  have hh : headOk 6 (R.map eExpr ++ n.assume.map eExpr) = true := by rw [← List.map_append]; exact head_Expr _
  simp [f_ref10_Exprs, hc, q1, q2, q3, hh]
 ·have h1 : partsL a ≤ partsA n.autos := by
   rw [partsA_eq, partsL_eq]
   have := total_mem (fun a => 1 + total State.parts a) ha
   omega
  have h2 : x.parts ≤ partsL a := by rw [partsL_eq]; exact total_mem _ hx
  omega
end
end PI.Sc
set_option maxRecDepth 100000
set_option linter.unusedSimpArgs false
set_option linter.unusedVariables false
namespace PI.Sc
open Go (IntKind BinOp UnOp)
open Short
theorem DF.dw {d : Decl} (h : DF d) (hp : d.parts ≤ 1500) : DW d := ⟨h.type, by unfold Decl.parts at hp; omega, h.on⟩
theorem QF.qw {q : Eqn} (h : QF q) (hp : q.parts ≤ 1500) : QW q := ⟨by unfold Eqn.parts at hp; omega, ⟨by unfold Eqn.parts at hp; omega, h.right⟩⟩
theorem all_parts {α : Type} (f : α → Nat) (h1 : ∀ x, 1 ≤ f x) {l : List α} (h : total f l ≤ 1500) : l.length ≤ 1500 ∧ ∀ x ∈ l, f x ≤ 1500 :=
 ⟨Nat.le_trans (total_len f h1 l) h, fun x hx => Nat.le_trans (total_mem f hx) h⟩
theorem dparts (d : Decl) : 1 ≤ d.parts := by unfold Decl.parts; omega
theorem qparts (q : Eqn) : 1 ≤ q.parts := by unfold Eqn.parts; omega
theorem tparts (t : Trn) : 1 ≤ t.parts := by unfold Trn.parts; omega
theorem sparts (s : State) : 1 ≤ s.parts := by cases s; simp only [State.parts]; omega
theorem autos_parts {l : List (List State)} (h : partsA l ≤ 1500) : l.length ≤ 1500 ∧ (∀ a ∈ l, a.length ≤ 1500) ∧ ∀ a ∈ l, ∀ x ∈ a, x.parts ≤ 1500 := by
 rw [partsA_eq] at h
 obtain ⟨h1, h2⟩ := all_parts (fun a : List State => 1 + total State.parts a) (fun a => by omega) h
 refine ⟨h1, fun a ha => ?_, fun a ha x hx => ?_⟩
 ·have : 1 + total State.parts a ≤ 1500 := h2 a ha
  have h3 := total_len State.parts sparts a
  omega
 ·have : 1 + total State.parts a ≤ 1500 := h2 a ha
  have h3 := total_mem State.parts hx
  omega
theorem SF.sw {s : State} (h : SF s) (hp : s.parts ≤ 1500) : SW s := by
 induction s using State.ind with
 | h s ih =>
   have e := State.parts_eq s
   obtain ⟨a1, a2⟩ := all_parts Decl.parts dparts (l := s.locals) (by omega)
   obtain ⟨b1, b2⟩ := all_parts Eqn.parts qparts (l := s.eqs) (by omega)
   obtain ⟨c1, c2⟩ := all_parts Trn.parts tparts (l := s.unl) (by omega)
   obtain ⟨d1, d2⟩ := all_parts Trn.parts tparts (l := s.til) (by omega)
   obtain ⟨e1, e2, e3⟩ := autos_parts (l := s.autos) (by omega)
   exact .mk s a1 (fun d hd => (h.ls d hd).dw (a2 d hd)) b1 (fun q hq => (h.es q hq).qw (b2 q hq)) c1 (fun t ht => ⟨by have := c2 t ht; unfold Trn.parts at this; omega, h.us t ht⟩) d1 (fun t ht => ⟨by have := d2 t ht; unfold Trn.parts at this; omega, h.ts t ht⟩) e1 e2 (fun a ha x hx => ih a ha x hx (h.ss a ha x hx) (e3 a ha x hx))
theorem NF.nw {n : Node} (h : NF n) (hp : n.parts ≤ 1500) : NW n := by
 have e : n.parts = 1 + total Decl.parts n.ins + total Decl.parts n.outs + total Decl.parts n.locals + total Eqn.parts n.eqs + total (fun e => 1 + Expr.parts e) n.assume + total (fun e => 1 + Expr.parts e) n.ensure + partsA n.autos := rfl
 obtain ⟨a1, a2⟩ := all_parts Decl.parts dparts (l := n.ins) (by omega)
 obtain ⟨b1, b2⟩ := all_parts Decl.parts dparts (l := n.outs) (by omega)
 obtain ⟨c1, c2⟩ := all_parts Decl.parts dparts (l := n.locals) (by omega)
 obtain ⟨d1, d2⟩ := all_parts Eqn.parts qparts (l := n.eqs) (by omega)
 obtain ⟨f1, f2⟩ := all_parts (fun e => 1 + Expr.parts e) (fun x => by omega) (l := n.assume) (by omega)
 obtain ⟨g1, g2⟩ := all_parts (fun e => 1 + Expr.parts e) (fun x => by omega) (l := n.ensure) (by omega)
 obtain ⟨e1, e2, e3⟩ := autos_parts (l := n.autos) (by omega)
 exact ⟨a1, fun d hd => (h.is d hd).dw (a2 d hd), b1, fun d hd => (h.os d hd).dw (b2 d hd), c1, fun d hd => (h.ls d hd).dw (c2 d hd), d1, fun q hq => (h.es q hq).qw (d2 q hq), ⟨e1, e2, fun a ha x hx => (h.autos.ss a ha x hx).sw (e3 a ha x hx)⟩,
  f1, fun x hx => ⟨by have : 1 + x.parts ≤ 1500 := f2 x hx; omega, h.as x hx⟩, g1, fun x hx => ⟨by have : 1 + x.parts ≤ 1500 := g2 x hx; omega, h.gs x hx⟩⟩
theorem PF.pw {p : Prog} (h : PF p) (hs : parts p ≤ 1500) : PW p := by
 have hs' := hs
 unfold parts at hs
 obtain ⟨a1, a2⟩ := all_parts Enum.parts (fun u => by unfold Enum.parts; omega) (l := p.enums) (by omega)
 obtain ⟨b1, b2⟩ := all_parts Node.parts (fun u => by unfold Node.parts; omega) (l := p.nodes) (by omega)
 exact ⟨a1, fun u hu => by have := a2 u hu; unfold Enum.parts at this; omega, b1, fun n hn => (h.ns n hn).nw (b2 n hn)⟩
def isT : Option (PV × List PObj) → Bool
 | some (.bool true, []) => true
 | _ => false
theorem isT_iff {r : Option (PV × List PObj)} (h : isT r = true) : r = some (.bool true, []) := by
 unfold isT at h
 split at h
 ·rfl
 ·simp at h
theorem lives_call : isT (call LS 200 7 [] []) = true := by decide +kernel
theorem law_lives : callL LS 7 [] [] = some (.bool true, []) := callL_iff.2 ⟨200, isT_iff lives_call⟩
section
variable {L : Nat → Option PFunc} (hL : ∀ k f, LS k = some f → L k = some f)
include hL
theorem law_heavy (p : Prog) (hp : PF p) (h : List PObj) : callL L 6 [eProg p] h = some (.bool (heavy p), h) := by
 obtain ⟨n, h1, h2⟩ := ref_weigh hL p hp []
 have e : decide (1500 ≤ n) = heavy p := by unfold heavy; rw [Bool.eq_iff_iff, decide_eq_true_eq, decide_eq_true_eq]; unfold Cap at h2; omega
 refine callL_wp (hL 6 _ rfl) rfl ?_
 simp [f_law10_heavy, h1, e]
end
end PI.Sc
set_option maxRecDepth 100000
set_option linter.unusedSimpArgs false
set_option linter.unusedVariables false
namespace PI.Sc
open Go (IntKind BinOp UnOp)
open Short
def clockNames (l : List Decl) : List Str := l.flatMap fun d => d.clock.map (·.name)
theorem flatLeft_take {l : List Eqn} {i : Nat} (h : i < l.length) : (l.take (i + 1)).flatMap (·.left) = (l.take i).flatMap (·.left) ++ l[i].left := by rw [take_snoc h, List.flatMap_append, List.flatMap_singleton]
theorem insideS_eq (s : State) : insideS s = s.name :: declaredN s.locals ++ (s.eqs.flatMap (·.left) ++ insideA s.autos) := by cases s; simp [insideS, State.name, State.locals, State.eqs, State.autos]
section
variable {L : Nat → Option PFunc} (hL : ∀ k f, LS k = some f → L k = some f)
include hL
theorem ref_declared (l : List Decl) (hl : l.length ≤ 4500) (hc : (declaredN l).length ≤ 1000000) (hcl : ∀ d ∈ l, d.clock.length ≤ 1500) (o : Bool) (h : List PObj) : callL L 46 [.list o (l.map eDecl)] h = some (.list false ((declaredN l).map .str), h) := by
 refine callL_wp (hL 46 _ rfl) rfl ?_
 have hn := ref_namesX hL l (by omega) false
 obtain ⟨D, hD⟩ : ∃ D, D = declaredN l := ⟨_, rfl⟩
 rw [← hD] at hc ⊢
 simp [f_ref10_declared, hn]
 refine loop_rel l.length (fun j st => ∃ acc y4, st = ⟨[.list false (l.map eDecl), .list true [], .list true (acc.map .str), .int .i64 j, y4], [], 0, h⟩ ∧ acc ++ clockNames (l.drop j) = D) ?_ ?_ ⟨dnames l, _, rfl, by rw [hD]; rfl⟩
 ·rintro j hj st ⟨acc, y4, rfl, hd⟩ ih
  have hw := wrap_succ j (by omega)
  rw [List.drop_eq_getElem_cons hj] at hd
  have hcj := hcl _ (List.getElem_mem hj)
  simp only [clockNames, List.flatMap_cons] at hd
  have hlen := congrArg List.length hd
  simp only [List.length_append, List.length_map] at hlen
  obtain ⟨A, hA⟩ : ∃ A : Nat → List Str, ∀ i, A i = acc ++ (l[j].clock.take i).map (·.name) := ⟨_, fun _ => rfl⟩
  simp [hj]
  refine loop_go l[j].clock.length (fun i (_ : Unit) => [(2, .list true ((A i).map .str)), (4, .int .i64 i)]) (fun _ _ => h) () ?_ ?_ (by simp [hA]) rfl
  ·intro i hi _ ih
   have hwi := wrap_succ i (by omega)
   have ih := ih ()
   have hs : A (i + 1) = A i ++ [l[j].clock[i].name] := by rw [hA, hA, take_snoc hi, List.map_append, ← List.append_assoc]; rfl
   have hlA : (A i).length + 1 ≤ 2147483648 := by rw [hA]; simp; omega
   rw [hs] at ih
   simp [hj, hi, hwi, hlA]
   simpa using ih
  ·intro _
   simp [hj, hw]
   exact ih _ ⟨A l[j].clock.length, _, rfl, by rw [hA, List.take_length]; simpa [clockNames] using hd⟩
 ·rintro st ⟨acc, y4, rfl, hd⟩
  rw [List.drop_eq_nil_of_le (Nat.le_refl _)] at hd
  simp only [clockNames, List.flatMap_nil, List.append_nil] at hd
  subst hd
  simp
def InsideRun (L : Nat → Option PFunc) (s : State) : Prop := ∀ h, callL L 47 [.list false (s.eqs.map eEqn), .list false (s.autos.map eAuto)] h = some (.list false ((s.eqs.flatMap (·.left) ++ insideA s.autos).map .str), h)
theorem ref_inside1 (eqs : List Eqn) (autos : List (List State)) (hq : eqs.length ≤ 1500) (ha : autos.length ≤ 1500) (hp : (eqs.flatMap (·.left) ++ insideA autos).length ≤ 1000000) (hw : ∀ a ∈ autos, a.length ≤ 1500 ∧ ∀ x ∈ a, x.locals.length ≤ 1500 ∧ ∀ d ∈ x.locals, d.clock.length ≤ 1500) (hrec : ∀ a ∈ autos, ∀ x ∈ a, InsideRun L x) (h : List PObj) :
  callL L 47 [.list false (eqs.map eEqn), .list false (autos.map eAuto)] h = some (.list false ((eqs.flatMap (·.left) ++ insideA autos).map .str), h) := by
 refine callL_wp (hL 47 _ rfl) rfl ?_
 obtain ⟨D, hD⟩ : ∃ D, D = eqs.flatMap (·.left) ++ insideA autos := ⟨_, rfl⟩
 rw [← hD] at hp ⊢
 have hpl := congrArg List.length hD
 rw [List.length_append] at hpl
 obtain ⟨A, hA⟩ : ∃ A : Nat → List Str, ∀ i, A i = (eqs.take i).flatMap (·.left) := ⟨_, fun _ => rfl⟩
 simp [f_ref10_inside]
 refine loop_go eqs.length (fun i (_ : Unit) => [(3, .list true ((A i).map .str)), (4, .int .i64 i)]) (fun _ _ => h) () ?_ ?_ (by simp [hA]) rfl
 ·intro i hi _ ih
  have hwi := wrap_succ i (by omega)
  have ih := ih ()
  have hs : A (i + 1) = A i ++ eqs[i].left := by rw [hA, hA, flatLeft_take hi]
  have hle : (A (i + 1)).length ≤ (eqs.flatMap (·.left)).length := by
   rw [hA]
   have e : eqs.flatMap (·.left) = (eqs.take (i + 1)).flatMap (·.left) ++ (eqs.drop (i + 1)).flatMap (·.left) := by rw [← List.flatMap_append, List.take_append_drop]
   rw [e, List.length_append]; omega
  rw [hs, List.length_append] at hle
  have hlA : (A i).length + eqs[i].left.length ≤ 2147483648 := by omega
  rw [hs] at ih
  simp [hi, hwi, hlA]
  simpa using ih
 ·intro _
  simp
  refine loop_rel autos.length (fun j st => ∃ acc y6 y7 g, st = ⟨[.list false (eqs.map eEqn), .list false (autos.map eAuto), .list true [], .list true (acc.map .str), .int .i64 eqs.length, .int .i64 j, y6, y7], [], g, h⟩ ∧ acc ++ insideA (autos.drop j) = D) ?_ ?_ ⟨A eqs.length, _, _, _, rfl, by rw [hD, hA, List.take_length]; rfl⟩
  ·rintro j hj st ⟨acc, y6, y7, g, rfl, hd⟩ ih
   have hwr := wrap_succ j (by omega)
   rw [List.drop_eq_getElem_cons hj] at hd
   have hmem := List.getElem_mem hj
   obtain ⟨hal, hax⟩ := hw _ hmem
   have hre := hrec _ hmem
   simp only [insideA] at hd
   simp [hj]
   refine loop_rel autos[j].length (fun i st => ∃ acc y7 g, st = ⟨[.list false (eqs.map eEqn), .list false (autos.map eAuto), .list true [], .list true (acc.map .str), .int .i64 eqs.length, .int .i64 j, .int .i64 i, y7], [], g, h⟩ ∧ acc ++ (insideL (autos[j].drop i) ++ insideA (autos.drop (j + 1))) = D) ?_ ?_ ⟨acc, _, _, rfl, by simpa using hd⟩
   ·rintro i hi st ⟨acc, y7, g, rfl, hd⟩ ih2
    have hwi := wrap_succ i (by omega)
    rw [List.drop_eq_getElem_cons hi] at hd
    obtain ⟨x, hX⟩ : ∃ X, X = autos[j][i] := ⟨_, rfl⟩
    obtain ⟨hu, ht⟩ := hax _ (List.getElem_mem hi)
    have hxr := hre _ (List.getElem_mem hi) []
    rw [← hX] at hd hu ht hxr
    simp only [insideL, insideS_eq] at hd
    have hdl := congrArg List.length hd
    simp only [List.length_append, List.length_cons] at hdl
    have hdc := ref_declared hL x.locals (by omega) (by omega) ht false []
    obtain ⟨B, hB⟩ : ∃ B, B = x.eqs.flatMap (·.left) ++ insideA x.autos := ⟨_, rfl⟩
    have hBl := congrArg List.length hB
    rw [List.length_append] at hBl
    rw [← hB] at hxr hd
    obtain ⟨C, hC⟩ : ∃ C, C = declaredN x.locals := ⟨_, rfl⟩
    rw [← hC] at hdc hd hdl
    have hl1 : acc.length + 1 ≤ 2147483648 := by omega
    have hl2 : acc.length + 1 + C.length ≤ 2147483648 := by omega
    have hl3 : acc.length + (C.length + 1) ≤ 2147483648 := by omega
    have hl4 : acc.length + (C.length + B.length + 1) ≤ 2147483648 := by omega
    have hl5 : acc.length + (C.length + 1) + B.length ≤ 2147483648 := by omega
    have hl6 : acc.length + 1 + C.length + B.length ≤ 2147483648 := by omega
    have hl7 : acc.length + (C.length + 1 + B.length) ≤ 2147483648 := by omega
    have hl8 : acc.length + (C.length + (B.length + 1)) ≤ 2147483648 := by omega
    have hh1 : ∀ l : List PV, headOk 1 (acc.map PV.str ++ PV.str x.name :: l) = true := fun l => by cases acc <;> simp
    simp [hj, hi, ← hX, hxr, hdc, hl1, hl2, hl3, hl4, hl5, hl6, hl7, hl8, hwi, hh1]
    exact ih2 _ ⟨acc ++ x.name :: (C ++ B), _, _, by simp; exact ⟨rfl, rfl⟩, by simpa using hd⟩
   ·rintro st ⟨acc, y7, g, rfl, hd⟩
    rw [List.drop_eq_nil_of_le (Nat.le_refl _)] at hd
    simp only [insideL, List.nil_append] at hd
    simp [hj, hwr]
    exact ih _ ⟨acc, _, _, _, rfl, hd⟩
  ·rintro st ⟨acc, y6, y7, g, rfl, hd⟩
   rw [List.drop_eq_nil_of_le (Nat.le_refl _)] at hd
   simp only [insideA, List.append_nil] at hd
   subst hd
   simp
theorem ref_insideS (s : State) (hs : SW s) (hp : s.parts ≤ 1500) : InsideRun L s := by
 induction s using State.ind with
 | h s ih =>
   have hpa : total Eqn.parts s.eqs + partsA s.autos ≤ s.parts := by cases s; simp only [State.parts, State.eqs, State.autos]; omega
   have h1 := lefts_le s.eqs
   have h2 := insideA_le s.autos
   refine ref_inside1 hL s.eqs s.autos hs.eqs hs.autos (by simp only [List.length_append]; omega) (fun a ha => ⟨hs.as a ha, fun x hx => ⟨(hs.ss a ha x hx).locals, fun d hd => ((hs.ss a ha x hx).ls d hd).clock⟩⟩) (fun a ha x hx => ih a ha x hx (hs.ss a ha x hx) ?_)
   have h1 : partsL a ≤ partsA s.autos := by
    rw [partsA_eq, partsL_eq]
    have := total_mem (fun a => 1 + total State.parts a) ha
    omega
   have h2 : x.parts ≤ partsL a := by rw [partsL_eq]; exact total_mem _ hx
   omega
theorem ref_insideN (n : Node) (hn : NW n) (hp : n.parts ≤ 1500) (h : List PObj) : callL L 47 [.list false (n.eqs.map eEqn), .list false (n.autos.map eAuto)] h = some (.list false ((n.eqs.flatMap (·.left) ++ insideA n.autos).map .str), h) := by
 have hpa : total Eqn.parts n.eqs + partsA n.autos ≤ n.parts := by simp only [Node.parts]; omega
 have h1 := lefts_le n.eqs
 have h2 := insideA_le n.autos
 refine ref_inside1 hL n.eqs n.autos hn.eqs hn.autos.len (by simp only [List.length_append]; omega) (fun a ha => ⟨hn.autos.as a ha, fun x hx => ⟨(hn.autos.ss a ha x hx).locals, fun d hd => ((hn.autos.ss a ha x hx).ls d hd).clock⟩⟩) (fun a ha x hx => ref_insideS hL x (hn.autos.ss a ha x hx) ?_) h
 have h1 : partsL a ≤ partsA n.autos := by
  rw [partsA_eq, partsL_eq]
  have := total_mem (fun a => 1 + total State.parts a) ha
  omega
 have h2 : x.parts ≤ partsL a := by rw [partsL_eq]; exact total_mem _ hx
 omega
end
end PI.Sc
