/-
  A region that draws its order comes to what the text's order comes to.
-/
import Derived.Test.YtaejhojielbbdaaGreatDoorPiOrd
import Derived.Test.YtaejhojielbbdaaGreatDoorPiSound10
set_option linter.unusedSimpArgs false
set_option linter.unusedVariables false
set_option linter.unusedSectionVars false
namespace PI
open Go Go.RowKit
abbrev SimG (p : PO) (st st' : St) : Prop := Sim p.op (readsG p) st st'
theorem reads_sub (p : PO) : ∀ x ∈ readsOf p.op, x ∈ readsG p := fun x hx => by simp only [readsG, List.mem_append]; exact .inr hx
theorem takes_sub (o : POp) : ∀ x ∈ takesOf o, x ∈ readsOf o := by
 intro x hx
 cases o with
 | h o => cases o <;> simp [takesOf, readsOf, readsOfH] at hx ⊢; exact .inl hx
 | take y => simpa [takesOf, readsOf] using hx
 | append a b c d => simp [takesOf, readsOf] at hx ⊢; exact .inl hx
 | appstr a b => simp [takesOf, readsOf] at hx ⊢; exact .inl hx
 | pcallx k xs own =>
   cases own with
   | none => simp [takesOf] at hx
   | some i => simp only [takesOf, Option.mem_toList] at hx; exact List.mem_of_getElem? hx
 | _ => simp [takesOf] at hx
theorem step1_dm {cf : CallF} {j : Nat} {p : PO} {st st1 : St} (hm : memOf p.op ≠ 2) (h : step1 cf j p st = some st1) :
  ∃ (d : Dm) (u : PV), st1 = put (d.app st) j p.dst u ∧ Fits p.op d ∧ ∀ st', SimG p st st' → step1 cf j p st' = some (put (d.app st') j p.dst u) := by
 have run : (opv cf p.op st).map (fun r => put r.2 j p.dst r.1) = some st1 → ∃ (d : Dm) (u : PV), st1 = put (d.app st) j p.dst u ∧ Fits p.op d ∧ ∀ st', SimG p st st' → (opv cf p.op st').map (fun r => put r.2 j p.dst r.1) = some (put (d.app st') j p.dst u) := by
  intro h
  simp only [Option.map_eq_some_iff] at h
  obtain ⟨⟨u, st2⟩, h1, rfl⟩ := h
  obtain ⟨d, e, hf, hs⟩ := opv_dm (rs := readsG p) hm (reads_sub p) h1
  exact ⟨d, u, by rw [e], hf, fun st' hsim => by rw [hs st' hsim]; rfl⟩
 unfold step1 at h
 split at h
 ·rename_i hg
  obtain ⟨d, u, h1, h2, h3⟩ := run h
  exact ⟨d, u, h1, h2, fun st' hs => by simp only [step1, hg]; exact h3 st' hs⟩
 ·rename_i x want hg
  have hx : x ∈ readsG p := by simp [readsG, hg]
  split at h
  ·rename_i b hb
   split at h
   ·rename_i hbw
    obtain ⟨d, u, h1, h2, h3⟩ := run h
    refine ⟨d, u, h1, h2, fun st' hs => ?_⟩
    have hb' : rd st' x = some (.bool b) := by rw [← hs.rd hx]; exact hb
    simp only [step1, hg, hb', if_pos hbw]
    exact h3 st' hs
   ·rename_i hbw
    simp only [Option.some.injEq] at h; subst h
    refine ⟨.none, .tuple [], rfl, trivial, fun st' hs => ?_⟩
    have hb' : rd st' x = some (.bool b) := by rw [← hs.rd hx]; exact hb
    simp only [step1, hg, hb', if_neg hbw]
    rfl
  ·rename_i hb
   simp only [Option.some.injEq] at h; subst h
   refine ⟨.none, .tuple [], rfl, trivial, fun st' hs => ?_⟩
   have hb' : rd st' x = some (.tuple []) := by rw [← hs.rd hx]; exact hb
   simp only [step1, hg, hb']
   rfl
  ·simp at h
theorem raw_put {st : St} {j : Nat} {d : PD} {u : PV} {x : PX} (h : isX d j x = false) : raw (put st j d u) x = raw st x := by
 cases d <;> cases x <;> simp [isX, sameX] at h <;> simp only [put, raw] <;> first | rfl | (rw [List.getElem?_set]; simp [h])
theorem vw_dem (v : PV) : vw (dem v) = vw v := by cases v <;> rfl
theorem vw_demCell (off : Nat) (v : PV) : vw (demCell off v) = vw v := by cases v <;> rfl
theorem raw_shut1 {y x : PX} (st : St) (h : sameX y x = false) : raw (shut1 y st) x = raw st x := by
 cases y with
 | v i =>
   cases x with
   | v k => simp [sameX] at h; simp [shut1, raw, List.getElem?_modify, h]
   | _ => rfl
 | _ => cases x <;> rfl
theorem raw_shuts : ∀ {xs : List PX} {x : PX} (st : St), (∀ y ∈ xs, sameX y x = false) → raw (shuts xs st) x = raw st x
 | [], _, _, _ => rfl
 | y :: xs, x, st, h => by
   simp only [shuts]
   rw [raw_shuts (xs := xs) _ (fun z hz => h z (List.mem_cons_of_mem _ hz)), raw_shut1 st (h y (List.mem_cons_self ..))]
theorem shuts_heap : ∀ (xs : List PX) (st : St), (shuts xs st).heap = st.heap
 | [], _ => rfl
 | x :: xs, st => by simp only [shuts]; rw [shuts_heap xs]; cases x <;> rfl
theorem shuts_setHeap : ∀ (xs : List PX) (st : St) (h : List PObj), shuts xs { st with heap := h } = { shuts xs st with heap := h }
 | [], _, _ => rfl
 | x :: xs, st, h => by
   simp only [shuts]
   rw [← shuts_setHeap xs]
   cases x <;> rfl
theorem raw_app_vw (d : Dm) (st : St) (x : PX) (hsh : ∀ xs, d = .shut xs → ∀ y ∈ xs, sameX y x = false) : (raw (d.app st) x).map vw = (raw st x).map vw := by
 cases d with
 | none => rfl
 | heap h => cases x <;> rfl
 | shut xs => simp only [Dm.app]; rw [raw_shuts st (hsh xs rfl)]
 | src y =>
   cases y with
   | c p => rfl
   | v i =>
     cases x with
     | v k =>
       simp only [Dm.app, raw, List.getElem?_modify]
       cases st.vars[k]? <;> simp
       split <;> simp [vw_dem]
     | _ => rfl
   | l i =>
     cases x with
     | l k =>
       simp only [Dm.app, raw, List.getElem?_modify]
       cases st.locs[k]? <;> simp
       split <;> simp [vw_dem]
     | _ => rfl
 | cell s off =>
   cases x with
   | v k =>
     simp only [Dm.app, raw, List.getElem?_modify]
     cases st.vars[k]? <;> simp
     split <;> simp [vw_demCell]
   | _ => rfl
theorem raw_app_own {o : POp} {d : Dm} (hd : Fits o d) (st : St) (x : PX) (hx : ∀ y ∈ takesOf o, sameX y x = false) (hsh : ∀ xs, d = .shut xs → ∀ y ∈ xs, sameX y x = false) (es : List PV) : raw (d.app st) x = some (.list true es) ↔ raw st x = some (.list true es) := by
 cases d with
 | none => exact Iff.rfl
 | heap h => cases x <;> exact Iff.rfl
 | shut xs => simp only [Dm.app]; rw [raw_shuts st (hsh xs rfl)]
 | src y =>
   have hy := hx y hd
   cases y with
   | c p => exact Iff.rfl
   | v i =>
     cases x with
     | v k => simp [sameX] at hy; simp [Dm.app, raw, List.getElem?_modify, hy]
     | _ => exact Iff.rfl
   | l i =>
     cases x with
     | l k => simp [sameX] at hy; simp [Dm.app, raw, List.getElem?_modify, hy]
     | _ => exact Iff.rfl
 | cell s off =>
   cases x with
   | v k =>
     simp only [Dm.app, raw, List.getElem?_modify]
     cases hv : st.vars[k]? with
     | none => simp
     | some v =>
       simp only [Option.map_some, Option.some.injEq]
       split
       ·cases v <;> simp [demCell]
       ·simp
   | _ => exact Iff.rfl
theorem dem_dem (v : PV) : dem (dem v) = dem v := by cases v <;> rfl
theorem map_dem_modify (cs : List PV) (off : Nat) : (cs.modify off dem).map dem = cs.map dem := by
 apply List.ext_getElem?
 intro k
 simp only [List.getElem?_map, List.getElem?_modify]
 cases cs[k]? <;> simp
 split <;> simp [dem_dem]
theorem app_loc {o : POp} {d : Dm} (hd : Fits o d) (st : St) (exact : Bool) (he : exact = true → memOf o ≠ 3) (h4 : memOf o ≠ 4) : LocEq exact st (d.app st) ∧ LocEq exact (d.app st) st := by
 have same : ∀ (st st' : St), (∀ s : Nat, ∀ g cs, st.vars[s]? = some (.loc g cs) → st'.vars[s]? = some (.loc g cs)) → LocEq exact st st' := fun st st' h s g cs hs => ⟨cs, h s g cs hs, rfl, fun _ => rfl⟩
 cases d with
 | none => exact ⟨same _ _ (fun _ _ _ h => h), same _ _ (fun _ _ _ h => h)⟩
 | heap h => exact ⟨same _ _ (fun _ _ _ h => h), same _ _ (fun _ _ _ h => h)⟩
 | shut xs => exact absurd hd.1 h4
 | src y =>
   cases y with
   | c p => exact ⟨same _ _ (fun _ _ _ h => h), same _ _ (fun _ _ _ h => h)⟩
   | l i => exact ⟨same _ _ (fun _ _ _ h => h), same _ _ (fun _ _ _ h => h)⟩
   | v i =>
     refine ⟨same _ _ ?_, same _ _ ?_⟩
     ·intro s g cs h
      simp only [Dm.app, List.getElem?_modify, h, Option.map_some]
      split <;> rfl
     ·intro s g cs h
      simp only [Dm.app, List.getElem?_modify] at h
      cases hv : st.vars[s]? with
      | none => simp [hv] at h
      | some v =>
        rw [hv] at h
        simp only [Option.map_eq_map, Option.map_some, Option.some.injEq] at h
        split at h
        ·have : v = .loc g cs := by cases v <;> simp_all [dem]
         rw [this]
        ·rw [h]
 | cell s off =>
   have h3 : memOf o = 3 := hd
   have hne : exact = false := by
    cases exact with
    | false => rfl
    | true => exact absurd h3 (he rfl)
   subst hne
   refine ⟨?_, ?_⟩
   ·intro k g cs h
    simp only [Dm.app, List.getElem?_modify, h, Option.map_some]
    split
    ·exact ⟨cs.modify off dem, rfl, map_dem_modify cs off, by simp⟩
    ·exact ⟨cs, rfl, rfl, by simp⟩
   ·intro k g cs h
    simp only [Dm.app, List.getElem?_modify] at h
    cases hv : st.vars[k]? with
    | none => simp [hv] at h
    | some v =>
      rw [hv] at h
      simp only [Option.map_eq_map, Option.map_some, Option.some.injEq] at h
      split at h
      ·have : ∃ cs0, v = .loc g cs0 ∧ cs0.modify off dem = cs := by cases v <;> simp_all [demCell]
       obtain ⟨cs0, rfl, rfl⟩ := this
       exact ⟨_, rfl, (map_dem_modify _ off).symm, by simp⟩
      ·exact ⟨cs, by rw [h], rfl, by simp⟩
structure Comm (jp : Nat) (p : PO) (jq : Nat) (q : PO) : Prop where
 mp : memOf p.op ≠ 2
 mq : memOf q.op ≠ 2
 mm : ¬ (memOf p.op = 3 ∧ memOf q.op = 3)
 pq : ∀ x ∈ readsG q, isX p.dst jp x = false
 pv : isV p.dst = true → memOf q.op = 0
 qp : ∀ x ∈ readsG p, isX q.dst jq x = false
 qv : isV q.dst = true → memOf p.op = 0
 dd : sameD p.dst q.dst = false
 tt : ∀ x ∈ takesOf p.op, ∀ y ∈ takesOf q.op, sameX x y = false
 m4 : memOf p.op = 4 → memOf q.op = 0
 n4 : memOf q.op = 4 → memOf p.op = 0
 h2 : heapOf p.op = 2 → heapOf q.op = 0
 k2 : heapOf q.op = 2 → heapOf p.op = 0
 sp : ∀ x ∈ shutsOf p.op, ∀ y ∈ readsG q, sameX x y = false
 sq : ∀ x ∈ shutsOf q.op, ∀ y ∈ readsG p, sameX x y = false
theorem sameX_symm (x y : PX) : sameX x y = sameX y x := by cases x <;> cases y <;> simp [sameX] <;> exact Bool.beq_comm
theorem sameD_symm (x y : PD) : sameD x y = sameD y x := by cases x <;> cases y <;> simp [sameD] <;> exact Bool.beq_comm
theorem comm_spec {jp jq : Nat} {p q : PO} (h : comm jp p jq q = true) : Comm jp p jq q := by
 simp only [comm, apart, Bool.and_eq_true, Bool.not_eq_true', bne_iff_ne, ne_eq, List.all_eq_true, Bool.or_eq_true, beq_iff_eq, Bool.and_eq_false_iff, beq_eq_false_iff_ne, bne_eq_false_iff_eq, List.any_eq_false] at h
 obtain ⟨⟨⟨⟨⟨⟨⟨⟨⟨⟨⟨⟨h1, h2⟩, h3⟩, a1⟩, a2⟩, a3⟩, a4⟩, a5⟩, a6⟩, h4, h5⟩, h6, h7⟩, h8⟩, h9⟩ := h
 have neg : ∀ {a b : Nat} {c : Nat}, (¬ a = c ∨ b = 0) → a = c → b = 0 := by
  intro a b c h e
  rcases h with h | h
  ·exact absurd e h
  ·exact h
 refine ⟨h1, h2, ?_, h4, ?_, h6, ?_, h8, ?_, neg a1, neg a2, neg a3, neg a4, ?_, ?_⟩
 ·rintro ⟨a, b⟩; rcases h3 with h3 | h3
  ·exact h3 a
  ·exact h3 b
 ·intro hv; rcases h5 with h5 | h5
  ·rw [hv] at h5; simp at h5
  ·exact h5
 ·intro hv; rcases h7 with h7 | h7
  ·rw [hv] at h7; simp at h7
  ·exact h7
 ·intro x hx y hy
  simpa using h9 x hx y hy
 ·intro x hx y hy
  simpa using a5 x hx y hy
 ·intro x hx y hy
  simpa using a6 x hx y hy
theorem Comm.symm {jp jq : Nat} {p q : PO} (h : Comm jp p jq q) : Comm jq q jp p :=
 ⟨h.mq, h.mp, fun ⟨a, b⟩ => h.mm ⟨b, a⟩, h.qp, h.qv, h.pq, h.pv, by rw [sameD_symm]; exact h.dd, fun x hx y hy => by rw [sameX_symm]; exact h.tt y hy x hx, h.n4, h.m4, h.k2, h.h2, h.sq, h.sp⟩
theorem shuts_get : ∀ (xs : List PX) (st : St) (s : Nat), (∀ y ∈ xs, sameX y (.v s) = false) → (shuts xs st).vars[s]? = st.vars[s]?
 | [], _, _, _ => rfl
 | x :: xs, st, s, h => by
   simp only [shuts]
   rw [shuts_get xs _ s (fun y hy => h y (by simp [hy]))]
   have := h x (by simp)
   cases x with
   | v i =>
     have hne : ¬ i = s := by simpa [sameX] using this
     simp only [shut1, List.getElem?_modify, if_neg hne]
     cases st.vars[s]? <;> rfl
   | l i => rfl
   | c p => rfl
theorem slot_app {o : POp} {d : Dm} (hd : Fits o d) (st : St) (s : Nat) (hsh : ∀ xs, d = .shut xs → ∀ y ∈ xs, sameX y (.v s) = false) : SlotEq s st (d.app st) ∧ SlotEq s (d.app st) st := by
 have by_loc : memOf o ≠ 4 → SlotEq s st (d.app st) ∧ SlotEq s (d.app st) st := by
  intro h4
  obtain ⟨h1, h2⟩ := app_loc hd st false (by simp) h4
  exact ⟨fun g cs h => let ⟨cs', a, b, _⟩ := h1 s g cs h; ⟨cs', a, b⟩, fun g cs h => let ⟨cs', a, b, _⟩ := h2 s g cs h; ⟨cs', a, b⟩⟩
 cases d with
 | none => exact ⟨fun g cs h => ⟨cs, h, rfl⟩, fun g cs h => ⟨cs, h, rfl⟩⟩
 | heap h => exact ⟨fun g cs h => ⟨cs, h, rfl⟩, fun g cs h => ⟨cs, h, rfl⟩⟩
 | shut xs =>
   have := shuts_get xs st s (hsh xs rfl)
   exact ⟨fun g cs h => ⟨cs, by simp only [Dm.app]; rw [this]; exact h, rfl⟩, fun g cs h => ⟨cs, by simp only [Dm.app] at h; rw [this] at h; exact h, rfl⟩⟩
 | src y =>
   refine by_loc ?_
   have hy : y ∈ takesOf o := hd
   intro h4
   cases o <;> simp [takesOf] at hy <;> simp [memOf] at h4
   case h o => cases o <;> simp [takesOf] at hy <;> simp [memOf] at h4
   all_goals (try (split at h4 <;> simp at h4))
 | cell s' off =>
   refine by_loc ?_
   have h3 : memOf o = 3 := hd
   omega
theorem sim_change {jp jq : Nat} {p q : PO} (hc : Comm jp p jq q) {d : Dm} (hd : Fits p.op d) (st : St) (u : PV) : SimG q st (put (d.app st) jp p.dst u) ∧ SimG q (put (d.app st) jp p.dst u) st := by
 have hsh : ∀ x ∈ readsG q, ∀ xs, d = .shut xs → ∀ y ∈ xs, sameX y x = false := by
  intro x hx xs e y hy
  subst e
  exact hc.sp y (hd.2 ▸ hy) x hx
 have hreads : ∀ x ∈ readsG q, (raw st x).map vw = (raw (put (d.app st) jp p.dst u) x).map vw := fun x hx => by
  rw [raw_put (hc.pq x hx), raw_app_vw d st x (hsh x hx)]
 have htakes : ∀ x ∈ takesOf q.op, ∀ es, raw st x = some (.list true es) ↔ raw (put (d.app st) jp p.dst u) x = some (.list true es) := fun x hx es => by
  rw [raw_put (hc.pq x (reads_sub q x (takes_sub _ x hx))), raw_app_own hd st x (fun y hy => hc.tt y hy x hx) (hsh x (reads_sub q x (takes_sub _ x hx)))]
 have hmem : 1 ≤ memOf q.op → LocEq (memOf q.op == 3) st (put (d.app st) jp p.dst u) ∧ LocEq (memOf q.op == 3) (put (d.app st) jp p.dst u) st := fun h1 => by
  have hv : (put (d.app st) jp p.dst u).vars = (d.app st).vars := by
   cases hd : p.dst with
   | v i => have := hc.pv (by rw [hd]; rfl); omega
   | l => rfl
   | n => rfl
  have := app_loc hd st (memOf q.op == 3) (fun he h3 => hc.mm ⟨h3, by simpa using he⟩) (fun h4 => by have := hc.m4 h4; omega)
  unfold LocEq at this ⊢
  rw [hv]
  exact this
 have hheap : 1 ≤ heapOf q.op → (put (d.app st) jp p.dst u).heap = st.heap := by
  intro h1
  have hp : (put (d.app st) jp p.dst u).heap = (d.app st).heap := by cases p.dst <;> rfl
  rw [hp]
  cases d with
  | none => rfl
  | src y => cases y <;> rfl
  | cell s off => rfl
  | heap h => have := hc.h2 hd; omega
  | shut xs => exact shuts_heap xs st
 have hslot : ∀ s, slotOf q.op = some s → SlotEq s st (put (d.app st) jp p.dst u) ∧ SlotEq s (put (d.app st) jp p.dst u) st := by
  intro s hs
  have hx : PX.v s ∈ readsG q := by
   refine reads_sub q _ ?_
   cases hq : q.op <;> rw [hq] at hs <;> simp [slotOf] at hs
   subst hs
   simp [readsOf]
  have hp : (put (d.app st) jp p.dst u).vars[s]? = (d.app st).vars[s]? := by
   have h1 := hc.pq _ hx
   cases hd' : p.dst with
   | v i =>
     rw [hd'] at h1
     have hne : ¬ i = s := by simpa [isX, sameX] using h1
     simp only [put, List.getElem?_set, if_neg hne]
   | l => rfl
   | n => rfl
  obtain ⟨h1, h2⟩ := slot_app hd st s (fun xs e y hy => hsh _ hx xs e y hy)
  refine ⟨fun g cs h => ?_, fun g cs h => ?_⟩
  ·obtain ⟨cs', a, b⟩ := h1 g cs h
   exact ⟨cs', by rw [hp]; exact a, b⟩
  ·rw [hp] at h
   exact h2 g cs h
 exact ⟨⟨hreads, htakes, fun h => (hmem h).1, hheap, hslot⟩, ⟨fun x hx => (hreads x hx).symm, fun x hx es => (htakes x hx es).symm, fun h => (hmem h).2, fun h => (hheap h).symm, fun s hs => (hslot s hs).symm⟩⟩
theorem modify_comm (l : List PV) (i k : Nat) (f g : PV → PV) (h : i = k → ∀ v, f (g v) = g (f v)) : (l.modify i f).modify k g = (l.modify k g).modify i f := by
 apply List.ext_getElem?
 intro m
 simp only [List.getElem?_modify, Option.map_eq_map, Option.map_map]
 cases l[m]? with
 | none => rfl
 | some v =>
   simp only [Option.map_some, Function.comp]
   by_cases h1 : i = m <;> by_cases h2 : k = m <;> simp [h1, h2]
   exact (h (by omega) v).symm
theorem dem_demCell (off : Nat) (v : PV) : dem (demCell off v) = demCell off (dem v) := by cases v <;> rfl
theorem shutV_dem (v : PV) : shutV (dem v) = dem (shutV v) := by cases v <;> rfl
theorem shutV_demCell (off : Nat) (v : PV) : shutV (demCell off v) = demCell off (shutV v) := by
 cases v <;> simp [demCell, shutV, map_dem_modify]
theorem shut1_src (x y : PX) (st : St) : shut1 x ((Dm.src y).app st) = (Dm.src y).app (shut1 x st) := by
 cases x <;> cases y <;> (try simp only [Dm.app, shut1]) <;> (try rfl)
 rw [modify_comm]; intro _ v; exact (shutV_dem v).symm
theorem shut1_cell (x : PX) (s off : Nat) (st : St) : shut1 x ((Dm.cell s off).app st) = (Dm.cell s off).app (shut1 x st) := by
 cases x <;> (try simp only [Dm.app, shut1]) <;> (try rfl)
 rw [modify_comm]; intro _ v; exact (shutV_demCell off v).symm
theorem shuts_src : ∀ (xs : List PX) (y : PX) (st : St), shuts xs ((Dm.src y).app st) = (Dm.src y).app (shuts xs st)
 | [], _, _ => rfl
 | x :: xs, y, st => by simp only [shuts]; rw [shut1_src, shuts_src xs]
theorem shuts_cell : ∀ (xs : List PX) (s off : Nat) (st : St), shuts xs ((Dm.cell s off).app st) = (Dm.cell s off).app (shuts xs st)
 | [], _, _, _ => rfl
 | x :: xs, s, off, st => by simp only [shuts]; rw [shut1_cell, shuts_cell xs]
theorem app_app {o o' : POp} {d d' : Dm} (hd : Fits o d) (hd' : Fits o' d') (hm : ¬ (memOf o = 3 ∧ memOf o' = 3)) (h4 : memOf o = 4 → memOf o' = 0) (h2 : heapOf o = 2 → heapOf o' = 0) (st : St) : d.app (d'.app st) = d'.app (d.app st) := by
 cases d with
 | none => rfl
 | heap h =>
   cases d' with
   | none => rfl
   | src y => cases y <;> rfl
   | cell s off => rfl
   | heap h' =>
     have a := h2 hd
     have b : heapOf o' = 2 := hd'
     omega
   | shut xs => exact (shuts_setHeap xs st h).symm
 | shut xs =>
   cases d' with
   | none => rfl
   | src y => exact shuts_src xs y st
   | cell s off => exact shuts_cell xs s off st
   | heap h' => exact shuts_setHeap xs st h'
   | shut ys =>
     have a := h4 hd.1
     have b : memOf o' = 4 := hd'.1
     omega
 | src y =>
   cases d' with
   | heap h' => cases y <;> rfl
   | shut xs => exact (shuts_src xs y st).symm
   | none => rfl
   | src y' =>
     cases y <;> cases y' <;> (try simp only [Dm.app]) <;> (try rfl) <;> (rw [modify_comm]; intro _ v; rfl)
   | cell s off =>
     cases y <;> (try simp only [Dm.app]) <;> (try rfl)
     rw [modify_comm]; intro _ v; exact (dem_demCell off v).symm
 | cell s off =>
   cases d' with
   | heap h' => rfl
   | shut xs => exact (shuts_cell xs s off st).symm
   | none => rfl
   | src y' =>
     cases y' <;> (try simp only [Dm.app]) <;> (try rfl)
     rw [modify_comm]; intro _ v; exact dem_demCell off v
   | cell s' off' => exact absurd ⟨hd, hd'⟩ hm
theorem set_modify (l : List PV) (i k : Nat) (f : PV → PV) (u : PV) (h : i ≠ k) : (l.set i u).modify k f = (l.modify k f).set i u := by
 apply List.ext_getElem?
 intro m
 simp only [List.getElem?_modify, List.getElem?_set, List.length_modify]
 by_cases h1 : i = m
 ·subst h1
  have : ¬ k = i := fun e => h e.symm
  simp [this]
 ·simp [h1]
theorem shut1_put {x : PX} {j : Nat} {d : PD} (st : St) (u : PV) (h : isX d j x = false) : shut1 x (put st j d u) = put (shut1 x st) j d u := by
 cases x with
 | v k =>
   cases d with
   | v i => simp [isX, sameX] at h; simp only [shut1, put]; rw [set_modify _ _ _ _ _ h]
   | _ => rfl
 | _ => cases d <;> rfl
theorem shuts_put : ∀ {xs : List PX} {j : Nat} {d : PD} (st : St) (u : PV), (∀ x ∈ xs, isX d j x = false) → shuts xs (put st j d u) = put (shuts xs st) j d u
 | [], _, _, _, _, _ => rfl
 | x :: xs, j, d, st, u, h => by
   simp only [shuts]
   rw [shut1_put st u (h x (List.mem_cons_self ..)), shuts_put _ _ (fun y hy => h y (List.mem_cons_of_mem _ hy))]
theorem shuts_sub (o : POp) : ∀ x ∈ shutsOf o, x ∈ readsOf o := by
 intro x hx
 cases o with
 | h o => cases o <;> simp [shutsOf, readsOf, readsOfH] at hx ⊢; exact hx
 | _ => simp [shutsOf] at hx
theorem app_put {p : PO} {q : PO} {jp jq : Nat} (hc : Comm jp p jq q) {d : Dm} (hd : Fits p.op d) (st : St) (u : PV) : d.app (put st jq q.dst u) = put (d.app st) jq q.dst u := by
 cases d with
 | none => rfl
 | heap h => cases q.dst <;> rfl
 | shut xs => exact shuts_put st u (fun x hx => hc.qp x (reads_sub p x (shuts_sub _ x (hd.2 ▸ hx))))
 | src y =>
   have hy := hc.qp y (reads_sub p y (takes_sub _ y hd))
   cases hq : q.dst with
   | n => rfl
   | v i =>
     rw [hq] at hy
     cases y with
     | c z => rfl
     | l k => rfl
     | v k => simp [isX, sameX] at hy; simp only [Dm.app, put]; rw [set_modify _ _ _ _ _ hy]
   | l =>
     rw [hq] at hy
     cases y with
     | c z => rfl
     | v k => rfl
     | l k => simp [isX, sameX] at hy; simp only [Dm.app, put]; rw [set_modify _ _ _ _ _ hy]
 | cell s off =>
   cases hq : q.dst with
   | n => rfl
   | l => rfl
   | v i =>
     have h0 := hc.qv (by rw [hq]; rfl)
     have h3 : memOf p.op = 3 := hd
     omega
theorem put_put {jp jq : Nat} {d d' : PD} (hj : jp ≠ jq) (h : sameD d d' = false) (st : St) (u u' : PV) : put (put st jp d u) jq d' u' = put (put st jq d' u') jp d u := by
 cases d <;> cases d' <;> simp [sameD] at h <;> simp only [put] <;> (try rfl)
 ·rw [List.set_comm _ _ h]
 ·rw [List.set_comm _ _ hj]
/-- Two neighbours change places. -/
theorem swap {cf : CallF} {jp jq : Nat} {p q : PO} (hj : jp ≠ jq) (hc : Comm jp p jq q) {st st1 st2 : St} (h1 : step1 cf jp p st = some st1) (h2 : step1 cf jq q st1 = some st2) :
  ∃ st1', step1 cf jq q st = some st1' ∧ step1 cf jp p st1' = some st2 := by
 obtain ⟨d, u, e1, f1, s1⟩ := step1_dm hc.mp h1
 obtain ⟨d', u', e2, f2, s2⟩ := step1_dm hc.mq h2
 subst e1
 have hq := s2 st (sim_change hc f1 st u).2
 refine ⟨_, hq, ?_⟩
 have hp := s1 _ (sim_change hc.symm f2 st u').1
 rw [hp, e2]
 congr 1
 rw [app_put hc f1, app_put hc.symm f2, app_app f1 f2 hc.mm hc.m4 hc.h2]
 exact put_put (fun e => hj e.symm) (by rw [sameD_symm]; exact hc.dd) _ _ _
/-! ### A load and a load of an owned list may change places. -/
def ldOf (p : PO) : Option (Nat × Bool × PX) :=
 match p with
 | ⟨.l, .h (.load sz agg x false), none⟩ => some (sz, agg, x)
 | _ => none
def lnOf (p : PO) : Option PX :=
 match p with
 | ⟨.l, .h (.loadn y), none⟩ => some y
 | _ => none
def commL (jp : Nat) (p : PO) (jq : Nat) (q : PO) : Bool :=
 match ldOf p, lnOf q with
 | some (_, _, x), some y => !isX .l jp y && !isX .l jq x
 | _, _ => match lnOf p, ldOf q with
   | some y, some (_, _, x) => !isX .l jp x && !isX .l jq y
   | _, _ => false
theorem ldOf_some {p : PO} {r} (h : ldOf p = some r) : p = ⟨.l, .h (.load r.1 r.2.1 r.2.2 false), none⟩ := by
 unfold ldOf at h
 split at h
 ·cases h; rfl
 ·cases h
theorem lnOf_some {p : PO} {y} (h : lnOf p = some y) : p = ⟨.l, .h (.loadn y), none⟩ := by
 unfold lnOf at h
 split at h
 ·cases h; rfl
 ·cases h
def ldv (sz : Nat) (agg : Bool) (st : St) : Option PV → Option PV
 | some (.cptr cs) => loadFrom sz agg cs 0
 | some (.ptr n off) => (hget st n).bind fun cs => loadFrom sz agg cs off
 | _ => none
theorem ld_eq {cf : CallF} (sz : Nat) (agg : Bool) (x : PX) (st : St) : opv cf (.h (.load sz agg x false)) st = (ldv sz agg st (addr st x)).map (·, st) := by
 simp only [opv, hopv, Bool.false_and]
 cases addr st x with
 | none => rfl
 | some v =>
   cases v <;> try rfl
   simp only [ldv]
   cases hget st _ <;> rfl
def lnv (st : St) : Option PV → Option (PV × List PObj)
 | some (.ptr n off) => (hget st n).bind fun cs => match cs[off]? with
   | some (.list true es) => some (.list true es, st.heap.set n (.cells (cs.set off (.list false es))))
   | some .nils => some (.list true [], st.heap)
   | _ => none
 | _ => none
theorem ln_eq {cf : CallF} (y : PX) (st : St) : opv cf (.h (.loadn y)) st = (lnv st (addr st y)).map fun r => (r.1, { st with heap := r.2 }) := by
 simp only [opv, hopv]
 cases addr st y with
 | none => rfl
 | some v =>
   cases v <;> try rfl
   rename_i n off
   simp only [lnv]
   cases hget st n with
   | none => rfl
   | some cs =>
     simp only [Option.bind_some]
     cases cs[off]? with
     | none => rfl
     | some z =>
       cases z <;> try rfl
       rename_i b es
       cases b <;> rfl
/-- What a load gives does not hang on who owns a list. -/
theorem ldv_ln {sz : Nat} {agg : Bool} {st : St} {a b : Option PV} {r} (h : lnv st b = some r) : ldv sz agg { st with heap := r.2 } a = ldv sz agg st a := by
 cases b with
 | none => simp [lnv] at h
 | some v =>
   cases v <;> simp only [lnv] at h <;> try (cases h; done)
   rename_i n off
   cases hg : hget st n with
   | none => rw [hg] at h; cases h
   | some cs =>
     rw [hg] at h
     simp only [Option.bind_some] at h
     split at h
     ·rename_i es hes
      cases h
      cases a with
      | none => rfl
      | some v =>
        cases v <;> try rfl
        rename_i m off'
        simp only [ldv]
        have hcell : st.heap[n]? = some (.cells cs) := by
         unfold hget at hg
         split at hg
         ·cases hg; assumption
         ·cases hg
        have hn : n < st.heap.length := (List.getElem?_eq_some_iff.1 hcell).1
        by_cases hm : n = m
        ·subst hm
         have e1 : hget { st with heap := st.heap.set n (.cells (cs.set off (.list false es))) } n = some (cs.set off (.list false es)) := by simp [hget, hn]
         rw [e1, hg]
         simp only [Option.bind_some]
         refine loadFrom_dem ?_
         rw [List.map_set]
         symm
         have ho : off < cs.length := (List.getElem?_eq_some_iff.1 hes).1
         have h2 : cs[off] = .list true es := (List.getElem?_eq_some_iff.1 hes).2
         apply List.ext_getElem?
         intro i
         rw [List.getElem?_set]
         split
         ·rename_i e; subst e
          simp [ho, h2, dem]
         ·rfl
        ·have e1 : hget { st with heap := st.heap.set n (.cells (cs.set off (.list false es))) } m = hget st m := by simp [hget, hm]
         rw [e1]
     ·cases h; rfl
     ·cases h
theorem addr_setl {st : St} {j : Nat} {v : PV} {x : PX} {h : List PObj} (hx : isX .l j x = false) : addr { st with locs := st.locs.set j v, heap := h } x = addr st x := by
 have := raw_put (st := st) (j := j) (d := .l) (u := v) hx
 rw [addr_eq, addr_eq, ← this]
 cases x <;> rfl
theorem swapL {cf : CallF} {jp jq : Nat} {p q : PO} (hj : jp ≠ jq) (hc : commL jp p jq q = true) {st st1 st2 : St} (h1 : step1 cf jp p st = some st1) (h2 : step1 cf jq q st1 = some st2) :
  ∃ st1', step1 cf jq q st = some st1' ∧ step1 cf jp p st1' = some st2 := by
 unfold commL at hc
 split at hc
 ·rename_i sz agg x y hp hq
  simp only [Bool.and_eq_true, Bool.not_eq_true'] at hc
  rw [ldOf_some hp] at h1 ⊢
  rw [lnOf_some hq] at h2 ⊢
  simp only [step1, ld_eq, ln_eq, Option.map_map, Option.map_eq_some_iff] at h1 h2 ⊢
  obtain ⟨v, hv, rfl⟩ := h1
  obtain ⟨r, hr, rfl⟩ := h2
  simp only [Function.comp, put] at hr ⊢
  rw [addr_setl (h := st.heap) hc.1] at hr
  refine ⟨_, ⟨r, hr, rfl⟩, v, ?_, ?_⟩
  ·rw [addr_setl hc.2]
   exact (ldv_ln hr).trans hv
  ·simp only [List.set_comm _ _ hj]
 ·split at hc
  ·rename_i y sz agg x hp hq
   simp only [Bool.and_eq_true, Bool.not_eq_true'] at hc
   rw [lnOf_some hp] at h1 ⊢
   rw [ldOf_some hq] at h2 ⊢
   simp only [step1, ld_eq, ln_eq, Option.map_map, Option.map_eq_some_iff] at h1 h2 ⊢
   obtain ⟨r, hr, rfl⟩ := h1
   obtain ⟨v, hv, rfl⟩ := h2
   simp only [Function.comp, put] at hv ⊢
   rw [addr_setl hc.1] at hv
   refine ⟨_, ⟨v, (ldv_ln hr).symm.trans hv, rfl⟩, r, ?_, ?_⟩
   ·rw [addr_setl (h := st.heap) hc.2]
    exact hr
   ·simp only [List.set_comm _ _ hj]
  ·cases hc
/-! ### A new box, and what does not look at its variable, may change places. -/
/-- the variable and the zero of a new box -/
def nbOf (p : PO) : Option (Nat × List PV) :=
 match p with
 | ⟨.v s, .newloc z, none⟩ => some (s, z)
 | _ => none
theorem nbOf_some {p : PO} {r} (h : nbOf p = some r) : p = ⟨.v r.1, .newloc r.2, none⟩ := by
 unfold nbOf at h
 split at h
 ·cases h; rfl
 ·cases h
/-- An operation does not look at a variable, nor into its box. -/
def farN (s : Nat) (p : PO) : Bool := memOf p.op == 0 && slotOf p.op != some s && (readsG p).all (fun x => !sameX (.v s) x) && !sameD p.dst (.v s)
def newB (s : Nat) (z : List PV) (st : St) : St := { st with vars := st.vars.set s (.loc st.gen z), gen := st.gen + 1 }
theorem step1_nb {cf : CallF} {j s : Nat} {z : List PV} {st : St} : step1 cf j ⟨.v s, .newloc z, none⟩ st = some (newB s z st) := rfl
theorem raw_newB {s : Nat} {z : List PV} {st : St} {x : PX} (h : sameX (.v s) x = false) : raw (newB s z st) x = raw st x := by
 cases x with
 | v i =>
   have hi : s ≠ i := by simpa [sameX] using h
   show (st.vars.set s _)[i]? = st.vars[i]?
   rw [List.getElem?_set_ne hi]
 | l j => rfl
 | c v => rfl
theorem farN_sim {s : Nat} {z : List PV} {p : PO} (h : farN s p = true) (st : St) : SimG p st (newB s z st) ∧ SimG p (newB s z st) st := by
 simp only [farN, Bool.and_eq_true, beq_iff_eq, List.all_eq_true, Bool.not_eq_true', bne_iff_ne] at h
 obtain ⟨⟨⟨h0, hs⟩, hr⟩, hd⟩ := h
 have hraw : ∀ x ∈ readsG p, raw (newB s z st) x = raw st x := fun x hx => raw_newB (hr x hx)
 have htk : ∀ x ∈ takesOf p.op, raw (newB s z st) x = raw st x := fun x hx => hraw x (reads_sub p x (takes_sub _ x hx))
 have hsl : ∀ i, slotOf p.op = some i → (newB s z st).vars[i]? = st.vars[i]? := fun i hi => by
  have : s ≠ i := fun e => hs (by rw [hi, e])
  show (st.vars.set s _)[i]? = st.vars[i]?
  rw [List.getElem?_set_ne this]
 refine ⟨⟨fun x hx => by rw [hraw x hx], fun x hx es => by rw [htk x hx], fun h1 => by omega, fun _ => rfl, fun i hi => ?_⟩, ⟨fun x hx => by rw [hraw x hx], fun x hx es => by rw [htk x hx], fun h1 => by omega, fun _ => rfl, fun i hi => ?_⟩⟩
 ·exact ⟨fun g cs hg => ⟨cs, by rw [hsl i hi]; exact hg, rfl⟩, fun g cs hg => ⟨cs, by rw [← hsl i hi]; exact hg, rfl⟩⟩
 ·exact ⟨fun g cs hg => ⟨cs, by rw [← hsl i hi]; exact hg, rfl⟩, fun g cs hg => ⟨cs, by rw [hsl i hi]; exact hg, rfl⟩⟩
theorem set_newB {s i : Nat} (h : s ≠ i) (l : List PV) (f : PV → PV) (v : PV) : (l.set s v).modify i f = (l.modify i f).set s v := (set_modify l s i f v h)
theorem app_newB {s : Nat} {z : List PV} {p : PO} (h : farN s p = true) {d : Dm} (hf : Fits p.op d) (jp : Nat) (u : PV) (st : St) : put (d.app (newB s z st)) jp p.dst u = newB s z (put (d.app st) jp p.dst u) := by
 simp only [farN, Bool.and_eq_true, beq_iff_eq, List.all_eq_true, Bool.not_eq_true', bne_iff_ne] at h
 obtain ⟨⟨⟨h0, hs⟩, hr⟩, hd⟩ := h
 have key : d.app (newB s z st) = newB s z (d.app st) ∧ (d.app st).gen = st.gen := by
  cases d with
  | none => exact ⟨rfl, rfl⟩
  | heap h => exact ⟨rfl, rfl⟩
  | src x =>
    have hx := hr x (reads_sub p x (takes_sub _ x hf))
    cases x with
    | v i =>
      have hi : s ≠ i := by simpa [sameX] using hx
      refine ⟨?_, rfl⟩
      simp only [Dm.app, newB, set_newB hi]
    | l j => exact ⟨rfl, rfl⟩
    | c v => exact ⟨rfl, rfl⟩
  | cell a b => exact absurd hf (by simp [Fits, h0])
  | shut xs => exact absurd hf.1 (by simp [h0])
 obtain ⟨k1, k2⟩ := key
 rw [k1]
 cases hp : p.dst with
 | v i =>
   rw [hp] at hd
   have hi : i ≠ s := by simpa [sameD] using hd
   simp only [put, newB]
   rw [List.set_comm _ _ (Ne.symm hi)]
 | l => rfl
 | n => rfl
def commN (p q : PO) : Bool :=
 (match nbOf q with | some r => farN r.1 p | none => false) || (match nbOf p with | some r => farN r.1 q | none => false)
theorem far_mem {s : Nat} {p : PO} (h : farN s p = true) : memOf p.op ≠ 2 := by
 simp only [farN, Bool.and_eq_true, beq_iff_eq] at h
 omega
theorem swapN {cf : CallF} {jp jq : Nat} {p q : PO} (hc : commN p q = true) {st st1 st2 : St} (h1 : step1 cf jp p st = some st1) (h2 : step1 cf jq q st1 = some st2) :
  ∃ st1', step1 cf jq q st = some st1' ∧ step1 cf jp p st1' = some st2 := by
 unfold commN at hc
 rcases Bool.or_eq_true_iff.1 hc with hc | hc
 ·split at hc
  ·rename_i r hr
   rw [nbOf_some hr, step1_nb] at h2
   cases h2
   rw [nbOf_some hr, step1_nb]
   refine ⟨_, rfl, ?_⟩
   obtain ⟨d, u, e1, f1, s1⟩ := step1_dm (far_mem hc) h1
   rw [s1 _ (farN_sim hc st).1, e1, app_newB hc f1]
  ·cases hc
 ·split at hc
  ·rename_i r hr
   rw [nbOf_some hr, step1_nb] at h1
   cases h1
   obtain ⟨d, u, e1, f1, s1⟩ := step1_dm (far_mem hc) h2
   refine ⟨_, s1 _ (farN_sim hc st).2, ?_⟩
   rw [nbOf_some hr, step1_nb, e1, app_newB hc f1]
  ·cases hc
/-! ### A heap load, and a new object behind it in the text, may change places. -/
/-- what an operation that makes an object reads -/
def naOf (p : PO) : Option (List PX) :=
 match p with
 | ⟨_, .h (.newobj _), none⟩ => some []
 | ⟨_, .h (.boxobj _ y), none⟩ => some [y]
 | _ => none
theorem na_step {cf : CallF} {j : Nat} {q : PO} {ys : List PX} {st st2 : St} (h : naOf q = some ys) (hs : step1 cf j q st = some st2) :
  ∃ o, st2 = put { st with heap := st.heap ++ [o] } j q.dst (.ptr st.heap.length 0) ∧ ∀ st', (∀ y ∈ ys, rd st' y = rd st y) → step1 cf j q st' = some (put { st' with heap := st'.heap ++ [o] } j q.dst (.ptr st'.heap.length 0)) := by
 unfold naOf at h
 split at h
 ·rename_i d z
  cases h
  simp only [step1, opv, hopv, Option.map_some, Option.some.injEq] at hs
  exact ⟨.cells z, hs.symm, fun st' _ => rfl⟩
 ·rename_i d n y
  cases h
  simp only [step1, opv, hopv] at hs
  cases hr : rd st y with
  | none => rw [hr] at hs; simp at hs
  | some v =>
    rw [hr] at hs
    simp only at hs
    split at hs
    ·rename_i hl
     simp only [Option.map_some, Option.some.injEq] at hs
     refine ⟨.cells v.cells, hs.symm, fun st' h' => ?_⟩
     have := h' y (by simp)
     simp only [step1, opv, hopv, this, hr, hl, if_true, Option.map_some]
    ·simp at hs
 ·cases h
def commB (jp : Nat) (p : PO) (jq : Nat) (q : PO) : Bool :=
 match ldOf p, naOf q with
 | some (_, _, x), some ys => ys.all (fun y => !isX .l jp y) && !isX q.dst jq x
 | _, _ => false
theorem ldv_grow {sz : Nat} {agg : Bool} {st : St} {o : PObj} {a : Option PV} {v : PV} (h : ldv sz agg st a = some v) : ldv sz agg { st with heap := st.heap ++ [o] } a = some v := by
 unfold ldv at h ⊢
 split at h
 ·exact h
 ·rename_i n off
  simp only [Option.bind_eq_some_iff] at h ⊢
  obtain ⟨cs, hc, h⟩ := h
  refine ⟨cs, ?_, h⟩
  unfold hget at hc ⊢
  split at hc
  ·rename_i cs' hn
   have hl : n < st.heap.length := (List.getElem?_eq_some_iff.1 hn).1
   show (match (st.heap ++ [o])[n]? with | some (.cells cs) => some cs | _ => none) = some cs
   rw [List.getElem?_append_left hl, hn]
   exact hc
  ·cases hc
 ·cases h
theorem addr_heap {st : St} {x : PX} (h : List PObj) : addr { st with heap := h } x = addr st x := by cases x <;> rfl
theorem addr_put {st : St} {j : Nat} {d : PD} {v : PV} {x : PX} (hx : isX d j x = false) : addr (put st j d v) x = addr st x := by
 rw [addr_eq, addr_eq, raw_put hx]
theorem ldv_put {sz : Nat} {agg : Bool} {st : St} {j : Nat} {d : PD} {u : PV} {a : Option PV} : ldv sz agg (put st j d u) a = ldv sz agg st a := by cases d <;> rfl
theorem put_heap {st : St} {j : Nat} {d : PD} {u : PV} {h : List PObj} : { put st j d u with heap := h } = put { st with heap := h } j d u := by cases d <;> rfl
theorem put_len {st : St} {j : Nat} {d : PD} {u : PV} : (put st j d u).heap = st.heap := by cases d <;> rfl
theorem swapB {cf : CallF} {jp jq : Nat} {p q : PO} (hj : jp ≠ jq) (hc : commB jp p jq q = true) {st st1 st2 : St} (h1 : step1 cf jp p st = some st1) (h2 : step1 cf jq q st1 = some st2) :
  ∃ st1', step1 cf jq q st = some st1' ∧ step1 cf jp p st1' = some st2 := by
 unfold commB at hc
 split at hc
 ·rename_i sz agg x ys hp hq
  simp only [Bool.and_eq_true, List.all_eq_true, Bool.not_eq_true'] at hc
  have hpe := ldOf_some hp
  rw [hpe] at h1 ⊢
  simp only [step1, ld_eq, Option.map_map, Option.map_eq_some_iff, Function.comp] at h1 ⊢
  obtain ⟨v, hv, rfl⟩ := h1
  obtain ⟨o, rfl, hb⟩ := na_step hq h2
  have hr : ∀ y ∈ ys, rd st y = rd (put st jp .l v) y := fun y hy => by
   unfold rd
   rw [raw_put (hc.1 y hy)]
  refine ⟨_, hb st hr, v, ?_, ?_⟩
  ·rw [ldv_put, addr_put hc.2, addr_heap]
   exact ldv_grow hv
  ·rw [put_len, put_heap]
   refine put_put (fun e => hj e.symm) ?_ _ _ _
   cases q.dst <;> rfl
 ·cases hc
def commA (jp : Nat) (p : PO) (jq : Nat) (q : PO) : Bool := comm jp p jq q || commL jp p jq q || commN p q || commB jp p jq q
theorem swapA {cf : CallF} {jp jq : Nat} {p q : PO} (hj : jp ≠ jq) (hc : commA jp p jq q = true) {st st1 st2 : St} (h1 : step1 cf jp p st = some st1) (h2 : step1 cf jq q st1 = some st2) :
  ∃ st1', step1 cf jq q st = some st1' ∧ step1 cf jp p st1' = some st2 := by
 simp only [commA, Bool.or_eq_true] at hc
 rcases hc with ((h | h) | h) | h
 ·exact swap hj (comm_spec h) h1 h2
 ·exact swapL hj h h1 h2
 ·exact swapN h h1 h2
 ·exact swapB hj h h1 h2
theorem execL_front {cf : CallF} {pos : List PO} {i : Nat} {q : PO} (hi : pos[i]? = some q) {post : List Nat} : ∀ {pre : List Nat} {st st' : St}, (∀ j ∈ pre, j ≠ i ∧ ∀ p, pos[j]? = some p → commA j p i q = true) →
  execL cf pos (pre ++ i :: post) st = some st' → execL cf pos (i :: (pre ++ post)) st = some st'
 | [], st, st', _, h => h
 | j :: pre, st, st', hc, h => by
   simp only [List.cons_append, execL] at h
   split at h
   ·rename_i p hp
    simp only [Option.bind_eq_some_iff] at h
    obtain ⟨st1, h1, h2⟩ := h
    have ih := execL_front hi (fun j' hj' => hc j' (by simp [hj'])) h2
    simp only [execL, hi, Option.bind_eq_some_iff] at ih
    obtain ⟨st2, h3, h4⟩ := ih
    obtain ⟨hj, hcm⟩ := hc j (by simp)
    obtain ⟨st1', h5, h6⟩ := swapA hj (hcm p hp) h1 h3
    simp only [List.cons_append, execL, hi, hp, h5, Option.bind_some, h6]
    exact h4
   ·simp at h
/-! ### Orders -/
/-- `j` is before `i` by the listed edges. -/
inductive Pre (ops : Array Oper) : Nat → Nat → Prop where
 | edge {i : Nat} {o : Oper} {e : Edge} (ho : ops[i]? = some o) (he : e ∈ o.after) (hb : Region.binds .any e = true) : Pre ops e.on i
 | far {i j : Nat} {o : Oper} {e : Edge} (ho : ops[i]? = some o) (he : e ∈ o.after) (hb : Region.binds .any e = true) (h : Pre ops j e.on) : Pre ops j i
def force {α : Type} (m : Nat) (f : Nat → α) : α :=
 match m with
 | 0 => f 0
 | n + 1 => f (n + 1)
theorem force_eq {α : Type} (m : Nat) (f : Nat → α) : force m f = f m := by cases m <;> rfl
/-- The bits of a row. -/
def wide : Nat := 1024
/-- What comes before an operation, as bits; `M` holds the rows so far, 1024 bits each. -/
def rowOf (M : Nat) : List Edge → Nat → Nat
 | [], m => m
 | e :: es, m => if Region.binds .any e then force (m ||| 1 <<< e.on ||| M >>> (e.on * 1024) % 2 ^ wide) (rowOf M es) else rowOf M es m
def rows : List Oper → Nat → Nat → Nat
 | [], _, M => M
 | o :: os, i, M => force (M ||| (rowOf M o.after.toList 0 % 2 ^ wide) <<< (i * 1024)) (rows os (i + 1))
def GoodM (ops : Array Oper) (M : Nat) : Prop := ∀ i j, j < 1024 → M.testBit (i * 1024 + j) = true → Pre ops j i
theorem rowOf_ok {ops : Array Oper} {M : Nat} (hM : GoodM ops M) {i : Nat} {o : Oper} (ho : ops[i]? = some o) : ∀ (es : List Edge) (m : Nat), (∀ e ∈ es, e ∈ o.after) → (∀ j, j < 1024 → m.testBit j = true → Pre ops j i) → ∀ j, j < 1024 → (rowOf M es m).testBit j = true → Pre ops j i
 | [], m, _, hm => hm
 | e :: es, m, hes, hm => by
   intro j hj h
   simp only [rowOf] at h
   split at h
   ·rename_i hb
    rw [force_eq] at h
    refine rowOf_ok hM ho es _ (fun x hx => hes x (by simp [hx])) ?_ j hj h
    intro k hk hk2
    simp only [Nat.testBit_or, Bool.or_eq_true] at hk2
    rcases hk2 with (hk2 | hk2) | hk2
    ·exact hm k hk hk2
    ·rw [Nat.one_shiftLeft, Nat.testBit_two_pow] at hk2
     have : e.on = k := by simpa using hk2
     exact this ▸ Pre.edge ho (hes e (by simp)) hb
    ·rw [Nat.testBit_mod_two_pow, Nat.testBit_shiftRight] at hk2
     simp only [Bool.and_eq_true] at hk2
     exact Pre.far ho (hes e (by simp)) hb (hM e.on k hk hk2.2)
   ·exact rowOf_ok hM ho es m (fun x hx => hes x (by simp [hx])) hm j hj h
theorem rows_ok {ops : Array Oper} : ∀ (os : List Oper) (i M : Nat), (∀ k, os[k]? = ops[i + k]?) → GoodM ops M → GoodM ops (rows os i M)
 | [], _, _, _, hM => hM
 | o :: os, i, M, hs, hM => by
   simp only [rows, force_eq]
   have ho : ops[i]? = some o := by simpa using (hs 0).symm
   refine rows_ok os (i + 1) _ (fun k => by have := hs (k + 1); simp only [List.getElem?_cons_succ] at this; rw [this]; congr 1; omega) ?_
   intro a j hj h
   simp only [Nat.testBit_or, Bool.or_eq_true] at h
   rcases h with h | h
   ·exact hM a j hj h
   ·rw [Nat.testBit_shiftLeft, Nat.testBit_mod_two_pow] at h
    simp only [Bool.and_eq_true, decide_eq_true_eq] at h
    obtain ⟨h1, h2, h3⟩ := h
    have hw : wide = 1024 := rfl
    have ha : a = i := by omega
    subst ha
    rw [Nat.add_sub_cancel_left] at h3
    exact rowOf_ok hM ho o.after.toList 0 (by simp) (by simp) j hj h3
def pairOk (M : Nat) (pos : List PO) (i j : Nat) : Bool :=
 (match pos[j]?, pos[i]? with
 | some p, some q => commA j p i q
 | _, _ => false) || (decide (j < 1024) && M.testBit (i * 1024 + j))
def orderM (ops : Array Oper) (pos : List PO) (M : Nat) : Bool :=
 (List.range ops.size).all fun i => (match ops[i]? with | some o => o.after.all (fun e => !Region.binds .any e || decide (e.on < i)) | none => true) && (List.range i).all (pairOk M pos i)
def orderOk (ops : Array Oper) (pos : List PO) : Bool := force (rows ops.toList 0 0) (orderM ops pos)
def Closed (ops : Array Oper) (listed : Array Bool) : Prop :=
 ∀ (k : Nat) (o : Oper), ops[k]? = some o → listed.getD k false = true → ∀ e ∈ o.after, Region.binds .any e = true → listed.getD e.on false = true
theorem pred_listed {ops : Array Oper} {listed : Array Bool} (hcl : Closed ops listed) {j i : Nat} (h : Pre ops j i) : ∀ {o : Oper}, ops[i]? = some o → (∀ e ∈ o.after, Region.binds .any e = true → listed.getD e.on false = true) → listed.getD j false = true := by
 induction h with
 | edge ho he hb => intro o ho' hl; rw [ho] at ho'; cases ho'; exact hl _ he hb
 | @far i j o1 e ho he hb hp ih =>
   intro o ho' hl; rw [ho] at ho'; cases ho'
   have hon := hl _ he hb
   cases h' : ops[e.on]? with
   | none => exfalso; cases hp with
     | edge h1 => rw [h'] at h1; cases h1
     | far h1 => rw [h'] at h1; cases h1
   | some o' => exact ih h' (hcl e.on o' h' hon)
def remOf (n : Nat) (listed : Array Bool) : List Nat := (List.range n).filter fun i => !listed.getD i false
theorem filter_split {l : List Nat} {f : Nat → Bool} {i : Nat} (hs : l.Pairwise (· < ·)) (hi : i ∈ l) (hf : f i = true) :
  ∃ pre post, l.filter f = pre ++ i :: post ∧ (∀ j ∈ pre, j < i ∧ j ∈ l ∧ f j = true) ∧ l.filter (fun k => f k && k != i) = pre ++ post := by
 induction l with
 | nil => simp at hi
 | cons x xs ih =>
   rw [List.pairwise_cons] at hs
   rcases List.mem_cons.1 hi with rfl | hi
   ·refine ⟨[], xs.filter f, by simp [hf], by simp, ?_⟩
    simp only [List.filter_cons, hf, bne_self_eq_false, Bool.and_false, Bool.false_eq_true, if_false, List.nil_append]
    apply List.filter_congr
    intro k hk
    have : k ≠ i := fun e => by have := hs.1 k hk; omega
    simp [this]
   ·obtain ⟨pre, post, h1, h2, h3⟩ := ih hs.2 hi
    have hlt := hs.1 i hi
    have hne : (x != i) = true := by simp; omega
    by_cases hx : f x = true
    ·refine ⟨x :: pre, post, by simp [hx, h1], ?_, by simp [List.filter_cons, hx, hne, h3]⟩
     intro j hj
     rcases List.mem_cons.1 hj with rfl | hj
     ·exact ⟨hlt, by simp, hx⟩
     ·obtain ⟨a, b, c⟩ := h2 j hj
      exact ⟨a, by simp [b], c⟩
    ·refine ⟨pre, post, by simp [hx, h1], ?_, by simp [List.filter_cons, hx, h3]⟩
     intro j hj
     obtain ⟨a, b, c⟩ := h2 j hj
     exact ⟨a, by simp [b], c⟩
section
variable {E : Env} {N : Nm} {vs : List Tmp} {P : Program} {ops : Array Oper} {Q : Exit → Act → World → Prop}
theorem rem_split {listed : Array Bool} {i : Nat} (hsz : listed.size = ops.size) (hlt : i < ops.size) (hun : listed.getD i false = false) :
  ∃ pre post, remOf ops.size listed = pre ++ i :: post ∧ (∀ j ∈ pre, j < i ∧ j < ops.size ∧ listed.getD j false = false) ∧ remOf ops.size (listed.setIfInBounds i true) = pre ++ post := by
 obtain ⟨pre, post, e1, e2, e3⟩ := filter_split (f := fun k => !listed.getD k false) (List.pairwise_lt_range (n := ops.size)) (by simpa using hlt) (by simp only [hun]; rfl)
 refine ⟨pre, post, e1, fun j hj => by obtain ⟨a1, a2, a3⟩ := e2 j hj; exact ⟨a1, by simpa using a2, by simpa using a3⟩, ?_⟩
 rw [← e3]
 unfold remOf
 apply List.filter_congr
 intro k hk'
 by_cases hki : k = i
 ·subst hki
  have hl' : k < listed.size := by omega
  simp [Array.getD_eq_getD_getElem?, Array.getElem?_setIfInBounds, hl']
 ·rw [getD_set_ne _ (Ne.symm hki)]
  simp [hki]
theorem ready_none (hedge : ∀ i o, ops[i]? = some o → ∀ e ∈ o.after, Region.binds .any e = true → e.on < i) : ∀ {listed : Array Bool}, listed.size = ops.size → Region.ready .any ops listed = [] → remOf ops.size listed = [] := by
 intro listed hsz hr
 rcases List.eq_nil_or_concat (remOf ops.size listed) with h | ⟨_, _, h⟩
 ·exact h
 ·exfalso
  cases hrem : remOf ops.size listed with
  | nil => rw [hrem] at h; simp at h
  | cons m rest =>
    have hm : m ∈ remOf ops.size listed := by rw [hrem]; simp
    simp only [remOf, List.mem_filter, List.mem_range, Bool.not_eq_true'] at hm
    have hsort : (remOf ops.size listed).Pairwise (· < ·) := List.Pairwise.filter _ List.pairwise_lt_range
    rw [hrem, List.pairwise_cons] at hsort
    have hmr : m ∈ Region.ready .any ops listed := by
     rw [mem_ready]
     refine ⟨?_, ops[m], by simp [hm.1], ?_⟩
     ·have := hm.2
      simp only [Array.getD_eq_getD_getElem?] at this ⊢
      have hlt : m < listed.size := by omega
      simpa [hlt] using this
     ·intro e he hb
      have hlt := hedge m ops[m] (by simp [hm.1]) e he hb
      cases hl : listed.getD e.on false with
      | true => rfl
      | false =>
        have hin : e.on ∈ remOf ops.size listed := by
         simp only [remOf, List.mem_filter, List.mem_range, hl, Bool.not_false, and_true]
         omega
        rw [hrem] at hin
        rcases List.mem_cons.1 hin with h | h
        ·omega
        ·have := hsort.1 _ h; omega
    rw [hr] at hmr
    simp at hmr
/-- A region's operations in any order: what is run of it, whatever the order, is R. -/
theorem any_core {L : Nat → Option PFunc} (hF : FnsOK N P L) (hE : EnvOk E N) (hP : E.P = P) (nm : Names vs (lmap vs ops.toList)) {cf : CallF} (hcf : CallOK N P cf)
  (hcL : ∀ k args h r, cf k args h = some r → ∃ f, L k = some f) {pos : List PO} (hc : cOpers E vs ops.toList ops.toList = some pos)
  (hedge : ∀ i o, ops[i]? = some o → ∀ e ∈ o.after, Region.binds .any e = true → e.on < i) {R : Array Bool → St → Prop} {st' : St} (hR0 : ∀ {listed : Array Bool} {st}, listed.size = ops.size → remOf ops.size listed = [] → R listed st → st = st')
  (hRp : ∀ {listed : Array Bool} {i : Nat} {o : Oper} {q : PO} {st : St}, listed.size = ops.size → Closed ops listed → i < ops.size → listed.getD i false = false → ops[i]? = some o → (∀ e ∈ o.after, Region.binds .any e = true → listed.getD e.on false = true) → pos[i]? = some q →
   R listed st → ∃ st1, step1 cf i q st = some st1 ∧ R (listed.setIfInBounds i true) st1) :
  ∀ (fuel : Nat) {listed : Array Bool} {st : St} {w : World} {G : GS} {a : Act}, listed.size = ops.size → (remOf ops.size listed).length ≤ fuel → Closed ops listed → R listed st →
    FI N w G st a vs (lmap vs ops.toList) → Next1 N w G a st' vs ops.toList (Q .normal) → wpAny P .any ops Q fuel listed a w := by
 have hready := fun {listed : Array Bool} (h : listed.size = ops.size) => ready_none hedge (listed := listed) h
 intro fuel
 induction fuel with
 | zero =>
   intro listed st w G a hsz hl hcl hx hf hk
   have h0 : remOf ops.size listed = [] := List.length_eq_zero_iff.1 (by omega)
   have := hR0 hsz h0 hx; subst this
   refine ⟨?_, hk _ _ G hf (Ext.refl _ _) rfl⟩
   refine List.eq_nil_iff_forall_not_mem.2 fun i hi => ?_
   rw [mem_ready] at hi
   obtain ⟨hi1, o, ho, _⟩ := hi
   have hlt : i < ops.size := (Array.getElem?_eq_some_iff.1 ho).1
   have : i ∈ remOf ops.size listed := by
    simp only [remOf, List.mem_filter, List.mem_range, hlt, true_and]
    have hl' : i < listed.size := by omega
    simp only [Array.getD_eq_getD_getElem?] at hi1 ⊢
    simpa [hl'] using hi1
   rw [h0] at this
   simp at this
 | succ fuel ih =>
   intro listed st w G a hsz hl hcl hx hf hk
   refine ⟨?_, ?_⟩
   ·intro hr
    have := hR0 hsz (hready hsz hr) hx; subst this
    exact hk _ _ G hf (Ext.refl _ _) rfl
   ·intro i hi
    rw [mem_ready] at hi
    obtain ⟨hi1, o, ho, hpre⟩ := hi
    have hlt : i < ops.size := (Array.getElem?_eq_some_iff.1 ho).1
    have hun : listed.getD i false = false := by
     have hl' : i < listed.size := by omega
     simp only [Array.getD_eq_getD_getElem?] at hi1 ⊢
     simpa [hl'] using hi1
    obtain ⟨q, hq, hcq⟩ := (cOpers_get hc).2 i o (by simpa using ho)
    obtain ⟨pre, post, e1, e2, hrem⟩ := rem_split hsz hlt hun
    obtain ⟨st1, hs1, hs2⟩ := hRp hsz hcl hlt hun ho hpre hq hx
    refine step1_sound hF hE hP nm ho hf hcf hcL hcq hs1 ?_
    intro a' w' G' hf' he hsize
    refine ih (by simp [hsz]) ?_ ?_ hs2 hf' (hk.trans he hsize)
    ·rw [hrem]
     have : (remOf ops.size listed).length = (pre ++ i :: post).length := by rw [e1]
     simp at this ⊢
     omega
    ·intro k o' ho' hk1 e he' hb
     by_cases hki : k = i
     ·subst hki
      have : o' = o := by rw [ho] at ho'; simpa using ho'.symm
      subst this
      exact getD_set_true (hpre e he' hb)
     ·rw [getD_set_ne _ (Ne.symm hki)] at hk1
      exact getD_set_true (hcl k o' ho' hk1 e he' hb)
theorem not_pre {listed : Array Bool} (hcl : Closed ops listed) {i : Nat} {o : Oper} (ho : ops[i]? = some o) (hpre : ∀ e ∈ o.after, Region.binds .any e = true → listed.getD e.on false = true) {j : Nat} (hj : listed.getD j false = false) : ¬ Pre ops j i := fun h => by
 have := pred_listed hcl h ho hpre
 rw [hj] at this
 cases this
theorem any_sound {L : Nat → Option PFunc} (hF : FnsOK N P L) (hE : EnvOk E N) (hP : E.P = P) (nm : Names vs (lmap vs ops.toList)) {cf : CallF} (hcf : CallOK N P cf)
  (hcL : ∀ k args h r, cf k args h = some r → ∃ f, L k = some f) {pos : List PO} (hc : cOpers E vs ops.toList ops.toList = some pos) (hord : orderOk ops pos = true)
  (fuel : Nat) {listed : Array Bool} {st st' : St} {w : World} {G : GS} {a : Act} (hsz : listed.size = ops.size) (hl : (remOf ops.size listed).length ≤ fuel) (hcl : Closed ops listed) (hx : execL cf pos (remOf ops.size listed) st = some st')
  (hf : FI N w G st a vs (lmap vs ops.toList)) (hk : Next1 N w G a st' vs ops.toList (Q .normal)) : wpAny P .any ops Q fuel listed a w := by
 have hGM : GoodM ops (rows ops.toList 0 0) := rows_ok _ _ _ (by simp) (fun i j _ h => by simp at h)
 have hord : orderM ops pos (rows ops.toList 0 0) = true := by rw [orderOk, force_eq] at hord; exact hord
 have hedge : ∀ i o, ops[i]? = some o → ∀ e ∈ o.after, Region.binds .any e = true → e.on < i := by
  intro i o ho e he hb
  have hi : i < ops.size := (Array.getElem?_eq_some_iff.1 ho).1
  have := List.all_eq_true.1 hord i (by simpa using hi)
  simp only [ho, Bool.and_eq_true, Array.all_eq_true_iff_forall_mem] at this
  have := this.1 e he
  simpa [hb] using this
 have hpair : ∀ i j, i < ops.size → j < i → pairOk (rows ops.toList 0 0) pos i j = true := by
  intro i j hi hj
  have := List.all_eq_true.1 hord i (by simpa using hi)
  simp only [Bool.and_eq_true] at this
  exact List.all_eq_true.1 this.2 j (by simpa using hj)
 refine any_core hF hE hP nm hcf hcL hc hedge (R := fun listed st => execL cf pos (remOf ops.size listed) st = some st') (fun _ h0 h => by rw [h0] at h; simpa [execL] using h) ?_ fuel hsz hl hcl hx hf hk
 intro listed i o q st hsz hcl hlt hun ho hpre hq hx
 obtain ⟨pre, post, e1, e2, e3⟩ := rem_split hsz hlt hun
 have hx' : execL cf pos (i :: (pre ++ post)) st = some st' := by
  refine execL_front hq ?_ (by rw [← e1]; exact hx)
  intro j hj
  obtain ⟨a1, a2, a3⟩ := e2 j hj
  refine ⟨by omega, fun p hp => ?_⟩
  have hpo := hpair i j hlt a1
  simp only [pairOk, hp, hq, Bool.or_eq_true] at hpo
  rcases hpo with h | h
  ·exact h
  ·simp only [Bool.and_eq_true, decide_eq_true_eq] at h
   exact absurd (hGM i j h.1 h.2) (not_pre hcl ho hpre a3)
 simp only [execL, hq, Option.bind_eq_some_iff] at hx'
 rw [e3]
 exact hx'
/-! ### Orders that are all run -/
/-- The direct predecessors of a region's operations. -/
def befOf (ops : Array Oper) : List (List Nat) := ops.toList.map fun o => (o.after.toList.filter (Region.binds .any)).map (·.on)
/-- What may change places with all that is not bound to it. -/
def frOf (ops : Array Oper) (pos : List PO) (M : Nat) : List Bool := (List.range ops.size).map fun k => (List.range ops.size).all fun i =>
 i == k || (decide (k < 1024) && M.testBit (i * 1024 + k)) || (decide (i < 1024) && M.testBit (k * 1024 + i)) || (match pos[k]?, pos[i]? with | some p, some q => commA k p i q | _, _ => false)
def edgesOk (ops : Array Oper) : Bool := (List.range ops.size).all fun i => match ops[i]? with | some o => o.after.all (fun e => !Region.binds .any e || decide (e.on < i)) | none => true
/-- An order of what is left. -/
inductive Lin (ops : Array Oper) : Array Bool → List Nat → Prop where
 | nil {listed} (h : remOf ops.size listed = []) : Lin ops listed []
 | cons {listed i l} (hi : i ∈ Region.ready .any ops listed) (h : Lin ops (listed.setIfInBounds i true) l) : Lin ops listed (i :: l)
theorem ready_rem {listed : Array Bool} (hsz : listed.size = ops.size) {i : Nat} (h : i ∈ Region.ready .any ops listed) : i < ops.size ∧ listed.getD i false = false ∧ ∃ o, ops[i]? = some o ∧ ∀ e ∈ o.after, Region.binds .any e = true → listed.getD e.on false = true := by
 rw [mem_ready] at h
 obtain ⟨hi1, o, ho, hpre⟩ := h
 have hlt : i < ops.size := (Array.getElem?_eq_some_iff.1 ho).1
 refine ⟨hlt, ?_, o, ho, hpre⟩
 have hl' : i < listed.size := by omega
 simp only [Array.getD_eq_getD_getElem?] at hi1 ⊢
 simpa [hl'] using hi1
theorem rem_ready {listed : Array Bool} (hsz : listed.size = ops.size) {i : Nat} (hlt : i < ops.size) (hun : listed.getD i false = false) {o : Oper} (ho : ops[i]? = some o) (hpre : ∀ e ∈ o.after, Region.binds .any e = true → listed.getD e.on false = true) : i ∈ Region.ready .any ops listed := by
 rw [mem_ready]
 refine ⟨?_, o, ho, hpre⟩
 have hl' : i < listed.size := by omega
 simp only [Array.getD_eq_getD_getElem?] at hun ⊢
 simpa [hl'] using hun
theorem mem_rem {listed : Array Bool} {i : Nat} : i ∈ remOf ops.size listed ↔ i < ops.size ∧ listed.getD i false = false := by
 simp only [remOf, List.mem_filter, List.mem_range, Bool.not_eq_true']
theorem rem_erase {listed : Array Bool} {i : Nat} (hsz : listed.size = ops.size) (hlt : i < ops.size) (hun : listed.getD i false = false) : (remOf ops.size listed).erase i = remOf ops.size (listed.setIfInBounds i true) ∧ (remOf ops.size listed).length = (remOf ops.size (listed.setIfInBounds i true)).length + 1 := by
 obtain ⟨pre, post, e1, e2, e3⟩ := rem_split hsz hlt hun
 rw [e1, e3, List.erase_append_right _ (fun h => by have := (e2 i h).1; omega), List.erase_cons_head]
 simp; omega
theorem closed_set {listed : Array Bool} (hcl : Closed ops listed) {i : Nat} {o : Oper} (hsz : listed.size = ops.size) (hlt : i < ops.size) (ho : ops[i]? = some o) (hpre : ∀ e ∈ o.after, Region.binds .any e = true → listed.getD e.on false = true) : Closed ops (listed.setIfInBounds i true) := by
 intro k o' ho' hk1 e he' hb
 by_cases hki : k = i
 ·subst hki
  have : o' = o := by rw [ho] at ho'; simpa using ho'.symm
  subst this
  exact getD_set_true (hpre e he' hb)
 ·rw [getD_set_ne _ (Ne.symm hki)] at hk1
  exact getD_set_true (hcl k o' ho' hk1 e he' hb)
theorem lin_ex (hedge : ∀ i o, ops[i]? = some o → ∀ e ∈ o.after, Region.binds .any e = true → e.on < i) : ∀ (n : Nat) {listed : Array Bool}, listed.size = ops.size → (remOf ops.size listed).length ≤ n → ∃ l, Lin ops listed l
 | 0, listed, hsz, hl => ⟨[], .nil (List.length_eq_zero_iff.1 (by omega))⟩
 | n + 1, listed, hsz, hl => by
   cases hr : Region.ready .any ops listed with
   | nil => exact ⟨[], .nil (ready_none hedge hsz hr)⟩
   | cons i rest =>
     have hi : i ∈ Region.ready .any ops listed := by rw [hr]; simp
     obtain ⟨hlt, hun, o, ho, hpre⟩ := ready_rem hsz hi
     obtain ⟨l, hl'⟩ := lin_ex hedge n (listed := listed.setIfInBounds i true) (by simp [hsz]) (by have := (rem_erase hsz hlt hun).2; omega)
     exact ⟨i :: l, .cons hi hl'⟩
theorem set_set {listed : Array Bool} {i k : Nat} : (listed.setIfInBounds i true).setIfInBounds k true = (listed.setIfInBounds k true).setIfInBounds i true := by
 apply Array.ext_getElem?
 intro j
 simp only [Array.getElem?_setIfInBounds, Array.size_setIfInBounds]
 by_cases h1 : i = j <;> by_cases h2 : k = j <;> simp [h1, h2]
theorem still_ready {listed : Array Bool} (hsz : listed.size = ops.size) {i k : Nat} (hik : i ≠ k) (hi : i ∈ Region.ready .any ops listed) : i ∈ Region.ready .any ops (listed.setIfInBounds k true) := by
 obtain ⟨hlt, hun, o, ho, hpre⟩ := ready_rem hsz hi
 exact rem_ready (by simp [hsz]) hlt (by rw [getD_set_ne _ (Ne.symm hik)]; exact hun) ho (fun e he hb => getD_set_true (hpre e he hb))
/-- What may change places with all that is not bound to it can be run first. -/
theorem lin_free (hedge : ∀ i o, ops[i]? = some o → ∀ e ∈ o.after, Region.binds .any e = true → e.on < i) {cf : CallF} {pos : List PO} {M : Nat} (hM : GoodM ops M) (hlen : pos.length = ops.size) {k : Nat} {p : PO} (hp : pos[k]? = some p) (hfr : (frOf ops pos M).getD k false = true) {st' : St} :
  ∀ (l : List Nat) {listed : Array Bool} {st stk : St}, listed.size = ops.size → Closed ops listed → k ∈ Region.ready .any ops listed → step1 cf k p st = some stk → (∀ l', Lin ops (listed.setIfInBounds k true) l' → execL cf pos l' stk = some st') →
    Lin ops listed l → execL cf pos l st = some st'
 | [], listed, st, stk, hsz, hcl, hk, hs, hall, hl => by
   cases hl with
   | nil h =>
     obtain ⟨h1, h2, _⟩ := ready_rem hsz hk
     have := mem_rem.2 ⟨h1, h2⟩
     rw [h] at this
     simp at this
 | i :: l, listed, st, stk, hsz, hcl, hk, hs, hall, hl => by
   cases hl with
   | cons hi hl =>
     by_cases hik : i = k
     ·subst hik
      simp only [execL, hp, hs, Option.bind_some]
      exact hall l hl
     ·obtain ⟨hlt, hun, o, ho, hpre⟩ := ready_rem hsz hi
      obtain ⟨hlk, huk, ok, hok, hprek⟩ := ready_rem hsz hk
      obtain ⟨q, hq⟩ : ∃ q, pos[i]? = some q := ⟨pos[i], List.getElem?_eq_getElem (by omega)⟩
      have hcm : commA k p i q = true := by
       simp only [frOf, List.getD_eq_getElem?_getD, List.getElem?_map, List.getElem?_range hlk, Option.map_some, Option.getD_some, List.all_eq_true, List.mem_range] at hfr
       have := hfr i hlt
       simp only [hp, hq, Bool.or_eq_true, beq_iff_eq, Bool.and_eq_true, decide_eq_true_eq] at this
       rcases this with ((h | h) | h) | h
       ·exact absurd h hik
       ·exact absurd (hM i k h.1 h.2) (not_pre hcl ho hpre huk)
       ·exact absurd (hM k i h.1 h.2) (not_pre hcl hok hprek hun)
       ·exact h
      have hi2 := still_ready hsz hik hi
      have hk2 := still_ready hsz (Ne.symm hik) hk
      obtain ⟨l2, hl2⟩ := lin_ex hedge _ (listed := (listed.setIfInBounds k true).setIfInBounds i true) (by simp [hsz]) (Nat.le_refl _)
      have h3 := hall (i :: l2) (.cons hi2 hl2)
      simp only [execL, hq, Option.bind_eq_some_iff] at h3
      obtain ⟨stki, h4, _⟩ := h3
      obtain ⟨sti, h5, h6⟩ := swapA (Ne.symm hik) hcm hs h4
      simp only [execL, hq, h5, Option.bind_some]
      refine lin_free hedge hM hlen hp hfr l (by simp [hsz]) (closed_set hcl hsz hlt ho hpre) hk2 h6 ?_ hl
      intro l' hl'
      rw [set_set] at hl'
      have := hall (i :: l') (.cons hi2 hl')
      simp only [execL, hq, h4, Option.bind_some] at this
      exact this
theorem execAny_lin (hedge : ∀ i o, ops[i]? = some o → ∀ e ∈ o.after, Region.binds .any e = true → e.on < i) {cf : CallF} {pos : List PO} {M : Nat} (hM : GoodM ops M) (hlen : pos.length = ops.size) {st' : St} :
  ∀ {n : Nat} {listed : Array Bool} {st : St}, listed.size = ops.size → Closed ops listed → execAny cf pos (befOf ops) (frOf ops pos M) n (remOf ops.size listed) st = some st' → ∀ l, Lin ops listed l → execL cf pos l st = some st' := by
 have hrd : ∀ {listed : Array Bool} {k : Nat}, listed.size = ops.size → k ∈ remOf ops.size listed → readyIn (befOf ops) (remOf ops.size listed) k = true → k ∈ Region.ready .any ops listed := by
  intro listed k hsz hk hr
  obtain ⟨hlt, hun⟩ := mem_rem.1 hk
  have ho : ops[k]? = some ops[k] := by simp [hlt]
  refine rem_ready hsz hlt hun ho ?_
  intro e he hb
  simp only [readyIn, befOf, List.getD_eq_getElem?_getD, List.getElem?_map, Array.getElem?_toList, ho, Option.map_some, Option.getD_some, List.all_eq_true] at hr
  have h1 := hr e.on (List.mem_map.2 ⟨e, List.mem_filter.2 ⟨by simpa using he, hb⟩, rfl⟩)
  cases hl : listed.getD e.on false with
  | true => rfl
  | false =>
    have hlt2 := hedge k _ ho e he hb
    have : e.on ∈ remOf ops.size listed := mem_rem.2 ⟨by omega, hl⟩
    simp [this] at h1
 have hdr : ∀ {listed : Array Bool} {k : Nat}, listed.size = ops.size → k ∈ Region.ready .any ops listed → k ∈ remOf ops.size listed ∧ readyIn (befOf ops) (remOf ops.size listed) k = true := by
  intro listed k hsz hk
  obtain ⟨hlt, hun, o, ho, hpre⟩ := ready_rem hsz hk
  refine ⟨mem_rem.2 ⟨hlt, hun⟩, ?_⟩
  simp only [readyIn, befOf, List.getD_eq_getElem?_getD, List.getElem?_map, Array.getElem?_toList, ho, Option.map_some, Option.getD_some, List.all_eq_true, List.mem_map, List.mem_filter]
  rintro j ⟨e, ⟨he, hb⟩, rfl⟩
  have := hpre e (by simpa using he) hb
  simp only [Bool.not_eq_true', List.contains_eq_mem, decide_eq_false_iff_not]
  intro h
  have h2 := (mem_rem.1 h).2
  rw [this] at h2
  cases h2
 intro n
 induction n with
 | zero =>
   intro listed st hsz hcl h l hl
   cases hrem : remOf ops.size listed with
   | nil =>
     rw [hrem] at h
     cases hl with
     | nil _ => simpa [execAny, execL] using h
     | cons hi _ => have := (hdr hsz hi).1; rw [hrem] at this; simp at this
   | cons a b => rw [hrem] at h; simp [execAny] at h
 | succ n ih =>
   intro listed st hsz hcl h l hl
   cases hrem : remOf ops.size listed with
   | nil =>
     rw [hrem] at h
     cases hl with
     | nil _ => simpa [execAny, execL] using h
     | cons hi _ => have := (hdr hsz hi).1; rw [hrem] at this; simp at this
   | cons a b =>
     rw [hrem, execAny, ← hrem] at h
     split at h
     ·rename_i k hk
      have hkm := List.mem_of_find?_eq_some hk
      have hkf := List.find?_some hk
      simp only [Bool.and_eq_true] at hkf
      have hkr := hrd hsz hkm hkf.2
      obtain ⟨hlt, hun, o, ho, hpre⟩ := ready_rem hsz hkr
      simp only [Option.bind_eq_some_iff, stepAt] at h
      obtain ⟨stk, h1, h2⟩ := h
      split at h1
      ·rename_i p hp
       rw [(rem_erase hsz hlt hun).1] at h2
       exact lin_free hedge hM hlen hp hkf.1 l hsz hcl hkr h1 (ih (by simp [hsz]) (closed_set hcl hsz hlt ho hpre) h2) hl
      ·cases h1
     ·cases hl with
      | nil h0 => rw [hrem] at h0; cases h0
      | @cons _ i l' hi hl' =>
        obtain ⟨hm, hr⟩ := hdr hsz hi
        obtain ⟨hlt, hun, o, ho, hpre⟩ := ready_rem hsz hi
        have := agreeL_mem h _ (List.mem_map.2 ⟨i, List.mem_filter.2 ⟨hm, hr⟩, rfl⟩)
        simp only [Option.bind_eq_some_iff, stepAt] at this
        obtain ⟨sti, h1, h2⟩ := this
        split at h1
        ·rename_i q hq
         rw [(rem_erase hsz hlt hun).1] at h2
         simp only [execL, hq, h1, Option.bind_some]
         exact ih (by simp [hsz]) (closed_set hcl hsz hlt ho hpre) h2 l' hl'
        ·cases h1
theorem any_sound2 {L : Nat → Option PFunc} (hF : FnsOK N P L) (hE : EnvOk E N) (hP : E.P = P) (nm : Names vs (lmap vs ops.toList)) {cf : CallF} (hcf : CallOK N P cf)
  (hcL : ∀ k args h r, cf k args h = some r → ∃ f, L k = some f) {pos : List PO} (hc : cOpers E vs ops.toList ops.toList = some pos) (hed : edgesOk ops = true)
  (fuel : Nat) {listed : Array Bool} {st st' : St} {w : World} {G : GS} {a : Act} (hsz : listed.size = ops.size) (hl : (remOf ops.size listed).length ≤ fuel) (hcl : Closed ops listed)
  (hx : execAny cf pos (befOf ops) (frOf ops pos (rows ops.toList 0 0)) (remOf ops.size listed).length (remOf ops.size listed) st = some st')
  (hf : FI N w G st a vs (lmap vs ops.toList)) (hk : Next1 N w G a st' vs ops.toList (Q .normal)) : wpAny P .any ops Q fuel listed a w := by
 have hGM : GoodM ops (rows ops.toList 0 0) := rows_ok _ _ _ (by simp) (fun i j _ h => by simp at h)
 have hlen : pos.length = ops.size := by have := (cOpers_get hc).1; simpa using this.symm
 have hedge : ∀ i o, ops[i]? = some o → ∀ e ∈ o.after, Region.binds .any e = true → e.on < i := by
  intro i o ho e he hb
  have hi : i < ops.size := (Array.getElem?_eq_some_iff.1 ho).1
  have := List.all_eq_true.1 hed i (by simpa using hi)
  simp only [ho, Array.all_eq_true_iff_forall_mem] at this
  have := this e he
  simpa [hb] using this
 refine any_core hF hE hP nm hcf hcL hc hedge (R := fun listed st => ∀ l, Lin ops listed l → execL cf pos l st = some st') (fun _ h0 h => by simpa [execL] using h [] (.nil h0)) ?_ fuel hsz hl hcl (execAny_lin hedge hGM hlen hsz hcl hx) hf hk
 intro listed i o q st hsz hcl hlt hun ho hpre hq hx
 have hi := rem_ready hsz hlt hun ho hpre
 obtain ⟨l, hl⟩ := lin_ex hedge _ (listed := listed.setIfInBounds i true) (by simp [hsz]) (Nat.le_refl _)
 have h1 := hx (i :: l) (.cons hi hl)
 simp only [execL, hq, Option.bind_eq_some_iff] at h1
 obtain ⟨st1, h2, _⟩ := h1
 refine ⟨st1, h2, ?_⟩
 intro l' hl'
 have h3 := hx (i :: l') (.cons hi hl')
 simp only [execL, hq, h2, Option.bind_some] at h3
 exact h3
end
end PI
