/-
  Regions in which a call may panic: any order that the machine may draw comes to the same.
-/
import Derived.Test.YtaejhojielbbdaaGreatDoorPiIn
set_option linter.unusedSimpArgs false
set_option linter.unusedVariables false
set_option linter.unusedSectionVars false
namespace PI
open Go
noncomputable def brunL (cf : CallF) (ob : OutF) (pos : List PO) : List Nat → St → Option (Option PV × St)
 | [], st => some (none, st)
 | i :: l, st =>
   match pos[i]? with
   | some p => match bstep cf ob i p st with
     | some (none, st) => brunL cf ob pos l st
     | r => r
   | none => none
section
variable {cf : CallF} {ob : OutF} {pos : List PO}
theorem bstep_plain {j : Nat} {p : PO} {st : St} (h : isB p = false) : bstep cf ob j p st = (step1 cf j p st).map fun st => (none, st) := by
 unfold bstep
 unfold isB at h
 split
 ·rename_i h1 h2; rw [h1] at h; simp at h
 ·rename_i h1 h2; rw [h1] at h; simp at h
 ·rename_i h1 h2; rw [h1] at h; simp at h
 ·rename_i h1 h2; rw [h1] at h; simp at h
 ·rfl
theorem brunL_plain : ∀ {l : List Nat} {st : St}, (∀ i ∈ l, ∀ p, pos[i]? = some p → isB p = false) → brunL cf ob pos l st = (execL cf pos l st).map fun st => (none, st)
 | [], st, _ => rfl
 | i :: l, st, h => by
   simp only [brunL, execL]
   cases hp : pos[i]? with
   | none => rfl
   | some p =>
     simp only [bstep_plain (h i (by simp) p hp)]
     cases step1 cf i p st with
     | none => rfl
     | some st1 => simpa using brunL_plain (fun j hj => h j (by simp [hj]))
theorem brunL_append : ∀ (l1 l2 : List Nat) (st : St), brunL cf ob pos (l1 ++ l2) st = match brunL cf ob pos l1 st with
  | some (none, st) => brunL cf ob pos l2 st
  | r => r
 | [], l2, st => rfl
 | i :: l1, l2, st => by
   simp only [List.cons_append, brunL]
   cases hp : pos[i]? with
   | none => rfl
   | some p =>
     simp only
     cases bstep cf ob i p st with
     | none => rfl
     | some x =>
       obtain ⟨y, st1⟩ := x
       cases y with
       | none => exact brunL_append l1 l2 st1
       | some v => rfl
theorem brun_L {all : List PO} : ∀ {os : List PO} {j : Nat} {st : St}, all.drop j = os → brun cf ob j os st = brunL cf ob all (List.range' j os.length) st
 | [], j, st, _ => rfl
 | o :: os, j, st, h => by
   have hj : all[j]? = some o := by
    have := congrArg List.head? h
    simpa [List.head?_drop] using this
   have ht : all.drop (j + 1) = os := by
    have := congrArg List.tail h
    simpa [List.tail_drop] using this
   simp only [brun, List.length_cons, List.range'_succ, brunL, hj]
   cases bstep cf ob j o st with
   | none => rfl
   | some x =>
     obtain ⟨y, st1⟩ := x
     cases y with
     | none => exact brun_L ht
     | some v => rfl
theorem brunL_front {i : Nat} {q : PO} (hi : pos[i]? = some q) {pre post : List Nat} {st : St} {r : Option PV × St} (hb : pre ≠ [] → isB q = false) (hpre : ∀ j ∈ pre, ∀ p, pos[j]? = some p → isB p = false)
  (hc : ∀ j ∈ pre, j ≠ i ∧ ∀ p, pos[j]? = some p → commA j p i q = true) (h : brunL cf ob pos (pre ++ i :: post) st = some r) : brunL cf ob pos (i :: (pre ++ post)) st = some r := by
 cases pre with
 | nil => exact h
 | cons j0 pre0 =>
   have hq : isB q = false := hb (by simp)
   generalize hpr : j0 :: pre0 = pre at *
   have e1 : pre ++ i :: post = (pre ++ [i]) ++ post := by simp
   have e2 : i :: (pre ++ post) = (i :: pre) ++ post := rfl
   have p1 : ∀ k ∈ pre ++ [i], ∀ p, pos[k]? = some p → isB p = false := by
    intro k hk p hp
    rcases List.mem_append.1 hk with hk | hk
    ·exact hpre k hk p hp
    ·simp at hk; subst hk; rw [hi] at hp; simp at hp; subst hp; exact hq
   have p2 : ∀ k ∈ i :: pre, ∀ p, pos[k]? = some p → isB p = false := by
    intro k hk p hp
    rcases List.mem_cons.1 hk with rfl | hk
    ·rw [hi] at hp; simp at hp; subst hp; exact hq
    ·exact hpre k hk p hp
   rw [e1, brunL_append, brunL_plain p1] at h
   rw [e2, brunL_append, brunL_plain p2]
   cases hx : execL cf pos (pre ++ [i]) st with
   | none => rw [hx] at h; simp at h
   | some st1 =>
     have := execL_front hi hc (post := []) hx
     rw [List.append_nil] at this
     rw [this]
     rw [hx] at h
     exact h
theorem isB_mem {p : PO} (h : isB p = true) : memOf p.op = 2 := by
 unfold isB at h
 split at h <;> first | (rename_i e; rw [e]; rfl) | simp at h
theorem comm_noB {i j : Nat} {p q : PO} (h : commA j p i q = true) : isB p = false ∧ isB q = false := by
 rcases Bool.or_eq_true_iff.1 h with h | h
 rotate_left
 ·unfold commB at h
  split at h
  ·rename_i hp hq
   refine ⟨by rw [ldOf_some hp]; rfl, ?_⟩
   unfold naOf at hq
   split at hq <;> first | rfl | cases hq
  ·cases h
 rcases Bool.or_eq_true_iff.1 h with h | h
 rotate_left
 ·have nb : ∀ {p : PO} {r}, nbOf p = some r → isB p = false := fun h => by rw [nbOf_some h]; rfl
  have fr : ∀ {s : Nat} {p : PO}, farN s p = true → isB p = false := fun {s p} h => by cases hb : isB p with | false => rfl | true => exact absurd (isB_mem hb) (far_mem h)
  unfold commN at h
  rcases Bool.or_eq_true_iff.1 h with h | h
  ·split at h
   ·rename_i r hr; exact ⟨fr h, nb hr⟩
   ·cases h
  ·split at h
   ·rename_i r hr; exact ⟨nb hr, fr h⟩
   ·cases h
 rcases Bool.or_eq_true_iff.1 h with h | h
 rotate_left
 ·unfold commL at h
  split at h
  ·rename_i hp hq
   rw [ldOf_some hp, lnOf_some hq]; exact ⟨rfl, rfl⟩
  ·split at h
   ·rename_i hp hq
    rw [lnOf_some hp, ldOf_some hq]; exact ⟨rfl, rfl⟩
   ·cases h
 simp only [comm, Bool.and_eq_true, bne_iff_ne, ne_eq] at h
 obtain ⟨h1, h2⟩ := h.1.1.1.1.1.1.1.1.1.1.1
 exact ⟨by cases hp : isB p with | false => rfl | true => exact absurd (isB_mem hp) h1, by cases hp : isB q with | false => rfl | true => exact absurd (isB_mem hp) h2⟩
end
/-- Whatever order is drawn. -/
theorem lin_run {ops : Array Oper} {pos : List PO} {cf : CallF} {ob : OutF} (hlen : ops.size = pos.length) (hord : orderOk ops pos = true) :
  ∀ (fuel t : Nat) {listed : Array Bool} {st : St} {r : Option PV × St}, listed.size = ops.size → (remOf ops.size listed).length ≤ fuel → Closed ops listed → brunL cf ob pos (remOf ops.size listed) st = some r →
    brunL cf ob pos (Region.linearise.go .any ops fuel t listed []) st = some r := by
 have hGM : GoodM ops (rows ops.toList 0 0) := rows_ok _ _ _ (by simp) (fun i j _ h => by simp at h)
 have hord : orderM ops pos (rows ops.toList 0 0) = true := by rw [orderOk, force_eq] at hord; exact hord
 have hedge : ∀ i o, ops[i]? = some o → ∀ e ∈ o.after, Region.binds .any e = true → e.on < i := by
  intro i o ho e he hb
  have hi : i < ops.size := (Array.getElem?_eq_some_iff.1 ho).1
  have := List.all_eq_true.1 hord i (by simpa using hi)
  simp only [ho, Bool.and_eq_true, Array.all_eq_true_iff_forall_mem] at this
  have := this.1 e he
  simpa [hb] using this
 have hpair : ∀ i j, i < ops.size → j < i → pairOk (rows ops.toList 0 0) pos i j = true := by
  intro i j hi hj
  have := List.all_eq_true.1 hord i (by simpa using hi)
  simp only [Bool.and_eq_true] at this
  exact List.all_eq_true.1 this.2 j (by simpa using hj)
 have hready : ∀ {listed : Array Bool}, listed.size = ops.size → Region.ready .any ops listed = [] → remOf ops.size listed = [] := by
  intro listed hsz hr
  rcases List.eq_nil_or_concat (remOf ops.size listed) with h | ⟨_, _, h⟩
  ·exact h
  ·exfalso
   cases hrem : remOf ops.size listed with
   | nil => rw [hrem] at h; simp at h
   | cons m rest =>
     have hm : m ∈ remOf ops.size listed := by rw [hrem]; simp
     simp only [remOf, List.mem_filter, List.mem_range, Bool.not_eq_true'] at hm
     have hsort : (remOf ops.size listed).Pairwise (· < ·) := List.Pairwise.filter _ List.pairwise_lt_range
     rw [hrem, List.pairwise_cons] at hsort
     have hmr : m ∈ Region.ready .any ops listed := by
      rw [mem_ready]
      refine ⟨?_, ops[m], by simp [hm.1], ?_⟩
      ·have := hm.2
       simp only [Array.getD_eq_getD_getElem?] at this ⊢
       have hlt : m < listed.size := by omega
       simpa [hlt] using this
      ·intro e he hb
       have hlt := hedge m ops[m] (by simp [hm.1]) e he hb
       cases hl : listed.getD e.on false with
       | true => rfl
       | false =>
         have hin : e.on ∈ remOf ops.size listed := by
          simp only [remOf, List.mem_filter, List.mem_range, hl, Bool.not_false, and_true]
          omega
         rw [hrem] at hin
         rcases List.mem_cons.1 hin with h | h
         ·omega
         ·have := hsort.1 _ h; omega
     rw [hr] at hmr
     simp at hmr
 intro fuel
 induction fuel with
 | zero =>
   intro t listed st r hsz hl hcl hx
   have h0 : remOf ops.size listed = [] := List.length_eq_zero_iff.1 (by omega)
   rw [h0] at hx
   simpa [Region.linearise.go] using hx
 | succ fuel ih =>
   intro t listed st r hsz hl hcl hx
   simp only [Region.linearise.go]
   change brunL cf ob pos (match (Region.ready .any ops listed)[t % (Region.ready .any ops listed).length]? with
    | some i => Region.linearise.go .any ops fuel (t / (Region.ready .any ops listed).length) (listed.setIfInBounds i true) [i]
    | none => [].reverse) st = some r
   cases hi : (Region.ready .any ops listed)[t % (Region.ready .any ops listed).length]? with
   | none =>
     have hnil : Region.ready .any ops listed = [] := by
      cases hr : Region.ready .any ops listed with
      | nil => rfl
      | cons x xs =>
        rw [hr] at hi
        have hlt : t % (x :: xs).length < (x :: xs).length := Nat.mod_lt _ (by simp)
        simp at hi
        simp at hlt
        omega
     rw [hready hsz hnil] at hx
     simpa using hx
   | some i =>
     simp only []
     rw [linearise_go_acc, List.reverse_singleton, List.singleton_append]
     have hi := List.mem_of_getElem? hi
     rw [mem_ready] at hi
     obtain ⟨hi1, o, ho, hpre⟩ := hi
     have hlt : i < ops.size := (Array.getElem?_eq_some_iff.1 ho).1
     have hun : listed.getD i false = false := by
      have hl' : i < listed.size := by omega
      simp only [Array.getD_eq_getD_getElem?] at hi1 ⊢
      simpa [hl'] using hi1
     obtain ⟨q, hq⟩ : ∃ q, pos[i]? = some q := ⟨pos[i], List.getElem?_eq_getElem (by omega)⟩
     obtain ⟨pre, post, e1, e2, e3⟩ := filter_split (f := fun k => !listed.getD k false) (List.pairwise_lt_range (n := ops.size)) (by simpa using hlt) (by simp only [hun]; rfl)
     have hcm : ∀ j ∈ pre, j < i ∧ ∀ p, pos[j]? = some p → commA j p i q = true := by
      intro j hj
      obtain ⟨a1, a2, a3⟩ := e2 j hj
      refine ⟨by omega, fun p hp => ?_⟩
      have hpo := hpair i j hlt a1
      simp only [pairOk, hp, hq, Bool.or_eq_true] at hpo
      rcases hpo with h | h
      ·exact h
      ·simp only [Bool.and_eq_true, decide_eq_true_eq] at h
       have := pred_listed hcl (hGM i j h.1 h.2) ho hpre
       simp only [this] at a3
       simp at a3
     have hx' : brunL cf ob pos (i :: (pre ++ post)) st = some r := by
      refine brunL_front hq ?_ (fun j hj p hp => (comm_noB ((hcm j hj).2 p hp)).1) (fun j hj => ⟨by have := (hcm j hj).1; omega, fun p hp => (hcm j hj).2 p hp⟩) (by rw [← e1]; exact hx)
      intro hne
      cases pre with
      | nil => exact absurd rfl hne
      | cons j0 _ =>
        have hj0 : j0 < pos.length := by have := (hcm j0 (by simp)).1; omega
        exact (comm_noB ((hcm j0 (by simp)).2 pos[j0] (List.getElem?_eq_getElem hj0))).2
     simp only [brunL, hq] at hx' ⊢
     cases hs : bstep cf ob i q st with
     | none => rw [hs] at hx'; exact hx'
     | some y =>
       obtain ⟨z, st1⟩ := y
       rw [hs] at hx'
       cases z with
       | some v => exact hx'
       | none =>
         simp only at hx' ⊢
         have hrem : remOf ops.size (listed.setIfInBounds i true) = pre ++ post := by
          rw [← e3]
          unfold remOf
          apply List.filter_congr
          intro k hk'
          by_cases hki : k = i
          ·subst hki
           have hl' : k < listed.size := by omega
           simp [Array.getD_eq_getD_getElem?, Array.getElem?_setIfInBounds, hl']
          ·rw [getD_set_ne _ (Ne.symm hki)]
           simp [hki]
         refine ih _ (by simp [hsz]) ?_ ?_ (by rw [hrem]; exact hx')
         ·rw [hrem]
          have : (remOf ops.size listed).length = (pre ++ i :: post).length := by unfold remOf; rw [e1]
          simp at this ⊢
          omega
         ·intro k o' ho' hk1 e he' hb
          by_cases hki : k = i
          ·subst hki
           have : o' = o := by rw [ho] at ho'; simpa using ho'.symm
           subst this
           exact getD_set_true (hpre e he' hb)
          ·rw [getD_set_ne _ (Ne.symm hki)] at hk1
           exact getD_set_true (hcl k o' ho' hk1 e he' hb)
end PI
