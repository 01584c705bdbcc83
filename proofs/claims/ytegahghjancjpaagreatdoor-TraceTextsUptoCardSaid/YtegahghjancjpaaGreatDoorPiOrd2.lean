/-
  A region that draws its order comes to what the text's order comes to.
-/
import Derived.Test.YtegahghjancjpaaGreatDoorPiOrd
import Derived.Test.YtegahghjancjpaaGreatDoorPiSound10
set_option linter.unusedSimpArgs false
set_option linter.unusedVariables false
namespace PI
open Go Go.RowKit

abbrev SimG (p : PO) (st st' : St) : Prop := Sim p.op (readsG p) st st'

theorem reads_sub (p : PO) : ∀ x ∈ readsOf p.op, x ∈ readsG p := fun x hx => by simp only [readsG, List.mem_append]; exact .inr hx

theorem takes_sub (o : POp) : ∀ x ∈ takesOf o, x ∈ readsOf o := by
  intro x hx
  cases o with
  | h o => cases o <;> simp [takesOf, readsOf, readsOfH] at hx ⊢; exact .inl hx
  | take y => simpa [takesOf, readsOf] using hx
  | append a b c d => simp [takesOf, readsOf] at hx ⊢; exact .inl hx
  | appstr a b => simp [takesOf, readsOf] at hx ⊢; exact .inl hx
  | _ => simp [takesOf] at hx

theorem step1_dm {cf : CallF} {j : Nat} {p : PO} {st st1 : St} (hm : memOf p.op ≠ 2) (h : step1 cf j p st = some st1) :
    ∃ (d : Dm) (u : PV), st1 = put (d.app st) j p.dst u ∧ Fits p.op d ∧ ∀ st', SimG p st st' → step1 cf j p st' = some (put (d.app st') j p.dst u) := by
  have run : (opv cf p.op st).map (fun r => put r.2 j p.dst r.1) = some st1 → ∃ (d : Dm) (u : PV), st1 = put (d.app st) j p.dst u ∧ Fits p.op d ∧ ∀ st', SimG p st st' → (opv cf p.op st').map (fun r => put r.2 j p.dst r.1) = some (put (d.app st') j p.dst u) := by
    intro h
    simp only [Option.map_eq_some_iff] at h
    obtain ⟨⟨u, st2⟩, h1, rfl⟩ := h
    obtain ⟨d, e, hf, hs⟩ := opv_dm (rs := readsG p) hm (reads_sub p) h1
    exact ⟨d, u, by rw [e], hf, fun st' hsim => by rw [hs st' hsim]; rfl⟩
  unfold step1 at h
  split at h
  · rename_i hg
    obtain ⟨d, u, h1, h2, h3⟩ := run h
    exact ⟨d, u, h1, h2, fun st' hs => by simp only [step1, hg]; exact h3 st' hs⟩
  · rename_i x want hg
    have hx : x ∈ readsG p := by simp [readsG, hg]
    split at h
    · rename_i b hb
      split at h
      · rename_i hbw
        obtain ⟨d, u, h1, h2, h3⟩ := run h
        refine ⟨d, u, h1, h2, fun st' hs => ?_⟩
        have hb' : rd st' x = some (.bool b) := by rw [← hs.rd hx]; exact hb
        simp only [step1, hg, hb', if_pos hbw]
        exact h3 st' hs
      · rename_i hbw
        simp only [Option.some.injEq] at h; subst h
        refine ⟨.none, .tuple [], rfl, trivial, fun st' hs => ?_⟩
        have hb' : rd st' x = some (.bool b) := by rw [← hs.rd hx]; exact hb
        simp only [step1, hg, hb', if_neg hbw]
        rfl
    · rename_i hb
      simp only [Option.some.injEq] at h; subst h
      refine ⟨.none, .tuple [], rfl, trivial, fun st' hs => ?_⟩
      have hb' : rd st' x = some (.tuple []) := by rw [← hs.rd hx]; exact hb
      simp only [step1, hg, hb']
      rfl
    · simp at h

theorem raw_put {st : St} {j : Nat} {d : PD} {u : PV} {x : PX} (h : isX d j x = false) : raw (put st j d u) x = raw st x := by
  cases d <;> cases x <;> simp [isX, sameX] at h <;> simp only [put, raw] <;> first | rfl | (rw [List.getElem?_set]; simp [h])

theorem vw_dem (v : PV) : vw (dem v) = vw v := by cases v <;> rfl
theorem vw_demCell (off : Nat) (v : PV) : vw (demCell off v) = vw v := by cases v <;> rfl

theorem raw_shut1 {y x : PX} (st : St) (h : sameX y x = false) : raw (shut1 y st) x = raw st x := by
  cases y with
  | v i =>
    cases x with
    | v k => simp [sameX] at h; simp [shut1, raw, List.getElem?_modify, h]
    | _ => rfl
  | _ => cases x <;> rfl

theorem raw_shuts : ∀ {xs : List PX} {x : PX} (st : St), (∀ y ∈ xs, sameX y x = false) → raw (shuts xs st) x = raw st x
  | [], _, _, _ => rfl
  | y :: xs, x, st, h => by
    simp only [shuts]
    rw [raw_shuts (xs := xs) _ (fun z hz => h z (List.mem_cons_of_mem _ hz)), raw_shut1 st (h y (List.mem_cons_self ..))]

theorem shuts_heap : ∀ (xs : List PX) (st : St), (shuts xs st).heap = st.heap
  | [], _ => rfl
  | x :: xs, st => by simp only [shuts]; rw [shuts_heap xs]; cases x <;> rfl

theorem shuts_setHeap : ∀ (xs : List PX) (st : St) (h : List PObj), shuts xs { st with heap := h } = { shuts xs st with heap := h }
  | [], _, _ => rfl
  | x :: xs, st, h => by
    simp only [shuts]
    rw [← shuts_setHeap xs]
    cases x <;> rfl

theorem raw_app_vw (d : Dm) (st : St) (x : PX) (hsh : ∀ xs, d = .shut xs → ∀ y ∈ xs, sameX y x = false) : (raw (d.app st) x).map vw = (raw st x).map vw := by
  cases d with
  | none => rfl
  | heap h => cases x <;> rfl
  | shut xs => simp only [Dm.app]; rw [raw_shuts st (hsh xs rfl)]
  | src y =>
    cases y with
    | c p => rfl
    | v i =>
      cases x with
      | v k =>
        simp only [Dm.app, raw, List.getElem?_modify]
        cases st.vars[k]? <;> simp
        split <;> simp [vw_dem]
      | _ => rfl
    | l i =>
      cases x with
      | l k =>
        simp only [Dm.app, raw, List.getElem?_modify]
        cases st.locs[k]? <;> simp
        split <;> simp [vw_dem]
      | _ => rfl
  | cell s off =>
    cases x with
    | v k =>
      simp only [Dm.app, raw, List.getElem?_modify]
      cases st.vars[k]? <;> simp
      split <;> simp [vw_demCell]
    | _ => rfl

theorem raw_app_own {o : POp} {d : Dm} (hd : Fits o d) (st : St) (x : PX) (hx : ∀ y ∈ takesOf o, sameX y x = false) (hsh : ∀ xs, d = .shut xs → ∀ y ∈ xs, sameX y x = false) (es : List PV) : raw (d.app st) x = some (.list true es) ↔ raw st x = some (.list true es) := by
  cases d with
  | none => exact Iff.rfl
  | heap h => cases x <;> exact Iff.rfl
  | shut xs => simp only [Dm.app]; rw [raw_shuts st (hsh xs rfl)]
  | src y =>
    have hy := hx y hd
    cases y with
    | c p => exact Iff.rfl
    | v i =>
      cases x with
      | v k => simp [sameX] at hy; simp [Dm.app, raw, List.getElem?_modify, hy]
      | _ => exact Iff.rfl
    | l i =>
      cases x with
      | l k => simp [sameX] at hy; simp [Dm.app, raw, List.getElem?_modify, hy]
      | _ => exact Iff.rfl
  | cell s off =>
    cases x with
    | v k =>
      simp only [Dm.app, raw, List.getElem?_modify]
      cases hv : st.vars[k]? with
      | none => simp
      | some v =>
        simp only [Option.map_some, Option.some.injEq]
        split
        · cases v <;> simp [demCell]
        · simp
    | _ => exact Iff.rfl

theorem dem_dem (v : PV) : dem (dem v) = dem v := by cases v <;> rfl

theorem map_dem_modify (cs : List PV) (off : Nat) : (cs.modify off dem).map dem = cs.map dem := by
  apply List.ext_getElem?
  intro k
  simp only [List.getElem?_map, List.getElem?_modify]
  cases cs[k]? <;> simp
  split <;> simp [dem_dem]

theorem app_loc {o : POp} {d : Dm} (hd : Fits o d) (st : St) (exact : Bool) (he : exact = true → memOf o ≠ 3) (h4 : memOf o ≠ 4) : LocEq exact st (d.app st) ∧ LocEq exact (d.app st) st := by
  have same : ∀ (st st' : St), (∀ s : Nat, ∀ g cs, st.vars[s]? = some (.loc g cs) → st'.vars[s]? = some (.loc g cs)) → LocEq exact st st' := fun st st' h s g cs hs => ⟨cs, h s g cs hs, rfl, fun _ => rfl⟩
  cases d with
  | none => exact ⟨same _ _ (fun _ _ _ h => h), same _ _ (fun _ _ _ h => h)⟩
  | heap h => exact ⟨same _ _ (fun _ _ _ h => h), same _ _ (fun _ _ _ h => h)⟩
  | shut xs => exact absurd hd.1 h4
  | src y =>
    cases y with
    | c p => exact ⟨same _ _ (fun _ _ _ h => h), same _ _ (fun _ _ _ h => h)⟩
    | l i => exact ⟨same _ _ (fun _ _ _ h => h), same _ _ (fun _ _ _ h => h)⟩
    | v i =>
      refine ⟨same _ _ ?_, same _ _ ?_⟩
      · intro s g cs h
        simp only [Dm.app, List.getElem?_modify, h, Option.map_some]
        split <;> rfl
      · intro s g cs h
        simp only [Dm.app, List.getElem?_modify] at h
        cases hv : st.vars[s]? with
        | none => simp [hv] at h
        | some v =>
          rw [hv] at h
          simp only [Option.map_eq_map, Option.map_some, Option.some.injEq] at h
          split at h
          · have : v = .loc g cs := by cases v <;> simp_all [dem]
            rw [this]
          · rw [h]
  | cell s off =>
    have h3 : memOf o = 3 := hd
    have hne : exact = false := by
      cases exact with
      | false => rfl
      | true => exact absurd h3 (he rfl)
    subst hne
    refine ⟨?_, ?_⟩
    · intro k g cs h
      simp only [Dm.app, List.getElem?_modify, h, Option.map_some]
      split
      · exact ⟨cs.modify off dem, rfl, map_dem_modify cs off, by simp⟩
      · exact ⟨cs, rfl, rfl, by simp⟩
    · intro k g cs h
      simp only [Dm.app, List.getElem?_modify] at h
      cases hv : st.vars[k]? with
      | none => simp [hv] at h
      | some v =>
        rw [hv] at h
        simp only [Option.map_eq_map, Option.map_some, Option.some.injEq] at h
        split at h
        · have : ∃ cs0, v = .loc g cs0 ∧ cs0.modify off dem = cs := by cases v <;> simp_all [demCell]
          obtain ⟨cs0, rfl, rfl⟩ := this
          exact ⟨_, rfl, (map_dem_modify _ off).symm, by simp⟩
        · exact ⟨cs, by rw [h], rfl, by simp⟩

structure Comm (jp : Nat) (p : PO) (jq : Nat) (q : PO) : Prop where
  mp : memOf p.op ≠ 2
  mq : memOf q.op ≠ 2
  mm : ¬ (memOf p.op = 3 ∧ memOf q.op = 3)
  pq : ∀ x ∈ readsG q, isX p.dst jp x = false
  pv : isV p.dst = true → memOf q.op = 0
  qp : ∀ x ∈ readsG p, isX q.dst jq x = false
  qv : isV q.dst = true → memOf p.op = 0
  dd : sameD p.dst q.dst = false
  tt : ∀ x ∈ takesOf p.op, ∀ y ∈ takesOf q.op, sameX x y = false
  m4 : memOf p.op = 4 → memOf q.op = 0
  n4 : memOf q.op = 4 → memOf p.op = 0
  h2 : heapOf p.op = 2 → heapOf q.op = 0
  k2 : heapOf q.op = 2 → heapOf p.op = 0
  sp : ∀ x ∈ shutsOf p.op, ∀ y ∈ readsG q, sameX x y = false
  sq : ∀ x ∈ shutsOf q.op, ∀ y ∈ readsG p, sameX x y = false

theorem sameX_symm (x y : PX) : sameX x y = sameX y x := by cases x <;> cases y <;> simp [sameX] <;> exact Bool.beq_comm
theorem sameD_symm (x y : PD) : sameD x y = sameD y x := by cases x <;> cases y <;> simp [sameD] <;> exact Bool.beq_comm

theorem comm_spec {jp jq : Nat} {p q : PO} (h : comm jp p jq q = true) : Comm jp p jq q := by
  simp only [comm, apart, Bool.and_eq_true, Bool.not_eq_true', bne_iff_ne, ne_eq, List.all_eq_true, Bool.or_eq_true, beq_iff_eq, Bool.and_eq_false_iff, beq_eq_false_iff_ne, bne_eq_false_iff_eq, List.any_eq_false] at h
  obtain ⟨⟨⟨⟨⟨⟨⟨⟨⟨⟨⟨⟨h1, h2⟩, h3⟩, a1⟩, a2⟩, a3⟩, a4⟩, a5⟩, a6⟩, h4, h5⟩, h6, h7⟩, h8⟩, h9⟩ := h
  have neg : ∀ {a b : Nat} {c : Nat}, (¬ a = c ∨ b = 0) → a = c → b = 0 := by
    intro a b c h e
    rcases h with h | h
    · exact absurd e h
    · exact h
  refine ⟨h1, h2, ?_, h4, ?_, h6, ?_, h8, ?_, neg a1, neg a2, neg a3, neg a4, ?_, ?_⟩
  · rintro ⟨a, b⟩; rcases h3 with h3 | h3
    · exact h3 a
    · exact h3 b
  · intro hv; rcases h5 with h5 | h5
    · rw [hv] at h5; simp at h5
    · exact h5
  · intro hv; rcases h7 with h7 | h7
    · rw [hv] at h7; simp at h7
    · exact h7
  · intro x hx y hy
    simpa using h9 x hx y hy
  · intro x hx y hy
    simpa using a5 x hx y hy
  · intro x hx y hy
    simpa using a6 x hx y hy

theorem Comm.symm {jp jq : Nat} {p q : PO} (h : Comm jp p jq q) : Comm jq q jp p :=
  ⟨h.mq, h.mp, fun ⟨a, b⟩ => h.mm ⟨b, a⟩, h.qp, h.qv, h.pq, h.pv, by rw [sameD_symm]; exact h.dd, fun x hx y hy => by rw [sameX_symm]; exact h.tt y hy x hx, h.n4, h.m4, h.k2, h.h2, h.sq, h.sp⟩

theorem sim_change {jp jq : Nat} {p q : PO} (hc : Comm jp p jq q) {d : Dm} (hd : Fits p.op d) (st : St) (u : PV) : SimG q st (put (d.app st) jp p.dst u) ∧ SimG q (put (d.app st) jp p.dst u) st := by
  have hsh : ∀ x ∈ readsG q, ∀ xs, d = .shut xs → ∀ y ∈ xs, sameX y x = false := by
    intro x hx xs e y hy
    subst e
    exact hc.sp y (hd.2 ▸ hy) x hx
  have hreads : ∀ x ∈ readsG q, (raw st x).map vw = (raw (put (d.app st) jp p.dst u) x).map vw := fun x hx => by
    rw [raw_put (hc.pq x hx), raw_app_vw d st x (hsh x hx)]
  have htakes : ∀ x ∈ takesOf q.op, ∀ es, raw st x = some (.list true es) ↔ raw (put (d.app st) jp p.dst u) x = some (.list true es) := fun x hx es => by
    rw [raw_put (hc.pq x (reads_sub q x (takes_sub _ x hx))), raw_app_own hd st x (fun y hy => hc.tt y hy x hx) (hsh x (reads_sub q x (takes_sub _ x hx)))]
  have hmem : 1 ≤ memOf q.op → LocEq (memOf q.op == 3) st (put (d.app st) jp p.dst u) ∧ LocEq (memOf q.op == 3) (put (d.app st) jp p.dst u) st := fun h1 => by
    have hv : (put (d.app st) jp p.dst u).vars = (d.app st).vars := by
      cases hd : p.dst with
      | v i => have := hc.pv (by rw [hd]; rfl); omega
      | l => rfl
      | n => rfl
    have := app_loc hd st (memOf q.op == 3) (fun he h3 => hc.mm ⟨h3, by simpa using he⟩) (fun h4 => by have := hc.m4 h4; omega)
    unfold LocEq at this ⊢
    rw [hv]
    exact this
  have hheap : 1 ≤ heapOf q.op → (put (d.app st) jp p.dst u).heap = st.heap := by
    intro h1
    have hp : (put (d.app st) jp p.dst u).heap = (d.app st).heap := by cases p.dst <;> rfl
    rw [hp]
    cases d with
    | none => rfl
    | src y => cases y <;> rfl
    | cell s off => rfl
    | heap h => have := hc.h2 hd; omega
    | shut xs => exact shuts_heap xs st
  exact ⟨⟨hreads, htakes, fun h => (hmem h).1, hheap⟩, ⟨fun x hx => (hreads x hx).symm, fun x hx es => (htakes x hx es).symm, fun h => (hmem h).2, fun h => (hheap h).symm⟩⟩

theorem modify_comm (l : List PV) (i k : Nat) (f g : PV → PV) (h : i = k → ∀ v, f (g v) = g (f v)) : (l.modify i f).modify k g = (l.modify k g).modify i f := by
  apply List.ext_getElem?
  intro m
  simp only [List.getElem?_modify, Option.map_eq_map, Option.map_map]
  cases l[m]? with
  | none => rfl
  | some v =>
    simp only [Option.map_some, Function.comp]
    by_cases h1 : i = m <;> by_cases h2 : k = m <;> simp [h1, h2]
    exact (h (by omega) v).symm

theorem dem_demCell (off : Nat) (v : PV) : dem (demCell off v) = demCell off (dem v) := by cases v <;> rfl

theorem shutV_dem (v : PV) : shutV (dem v) = dem (shutV v) := by cases v <;> rfl
theorem shutV_demCell (off : Nat) (v : PV) : shutV (demCell off v) = demCell off (shutV v) := by
  cases v <;> simp [demCell, shutV, map_dem_modify]

theorem shut1_src (x y : PX) (st : St) : shut1 x ((Dm.src y).app st) = (Dm.src y).app (shut1 x st) := by
  cases x <;> cases y <;> (try simp only [Dm.app, shut1]) <;> (try rfl)
  rw [modify_comm]; intro _ v; exact (shutV_dem v).symm

theorem shut1_cell (x : PX) (s off : Nat) (st : St) : shut1 x ((Dm.cell s off).app st) = (Dm.cell s off).app (shut1 x st) := by
  cases x <;> (try simp only [Dm.app, shut1]) <;> (try rfl)
  rw [modify_comm]; intro _ v; exact (shutV_demCell off v).symm

theorem shuts_src : ∀ (xs : List PX) (y : PX) (st : St), shuts xs ((Dm.src y).app st) = (Dm.src y).app (shuts xs st)
  | [], _, _ => rfl
  | x :: xs, y, st => by simp only [shuts]; rw [shut1_src, shuts_src xs]

theorem shuts_cell : ∀ (xs : List PX) (s off : Nat) (st : St), shuts xs ((Dm.cell s off).app st) = (Dm.cell s off).app (shuts xs st)
  | [], _, _, _ => rfl
  | x :: xs, s, off, st => by simp only [shuts]; rw [shut1_cell, shuts_cell xs]

theorem app_app {o o' : POp} {d d' : Dm} (hd : Fits o d) (hd' : Fits o' d') (hm : ¬ (memOf o = 3 ∧ memOf o' = 3)) (h4 : memOf o = 4 → memOf o' = 0) (h2 : heapOf o = 2 → heapOf o' = 0) (st : St) : d.app (d'.app st) = d'.app (d.app st) := by
  cases d with
  | none => rfl
  | heap h =>
    cases d' with
    | none => rfl
    | src y => cases y <;> rfl
    | cell s off => rfl
    | heap h' =>
      have a := h2 hd
      have b : heapOf o' = 2 := hd'
      omega
    | shut xs => exact (shuts_setHeap xs st h).symm
  | shut xs =>
    cases d' with
    | none => rfl
    | src y => exact shuts_src xs y st
    | cell s off => exact shuts_cell xs s off st
    | heap h' => exact shuts_setHeap xs st h'
    | shut ys =>
      have a := h4 hd.1
      have b : memOf o' = 4 := hd'.1
      omega
  | src y =>
    cases d' with
    | heap h' => cases y <;> rfl
    | shut xs => exact (shuts_src xs y st).symm
    | none => rfl
    | src y' =>
      cases y <;> cases y' <;> (try simp only [Dm.app]) <;> (try rfl) <;> (rw [modify_comm]; intro _ v; rfl)
    | cell s off =>
      cases y <;> (try simp only [Dm.app]) <;> (try rfl)
      rw [modify_comm]; intro _ v; exact (dem_demCell off v).symm
  | cell s off =>
    cases d' with
    | heap h' => rfl
    | shut xs => exact (shuts_cell xs s off st).symm
    | none => rfl
    | src y' =>
      cases y' <;> (try simp only [Dm.app]) <;> (try rfl)
      rw [modify_comm]; intro _ v; exact dem_demCell off v
    | cell s' off' => exact absurd ⟨hd, hd'⟩ hm

theorem set_modify (l : List PV) (i k : Nat) (f : PV → PV) (u : PV) (h : i ≠ k) : (l.set i u).modify k f = (l.modify k f).set i u := by
  apply List.ext_getElem?
  intro m
  simp only [List.getElem?_modify, List.getElem?_set, List.length_modify]
  by_cases h1 : i = m
  · subst h1
    have : ¬ k = i := fun e => h e.symm
    simp [this]
  · simp [h1]

theorem shut1_put {x : PX} {j : Nat} {d : PD} (st : St) (u : PV) (h : isX d j x = false) : shut1 x (put st j d u) = put (shut1 x st) j d u := by
  cases x with
  | v k =>
    cases d with
    | v i => simp [isX, sameX] at h; simp only [shut1, put]; rw [set_modify _ _ _ _ _ h]
    | _ => rfl
  | _ => cases d <;> rfl

theorem shuts_put : ∀ {xs : List PX} {j : Nat} {d : PD} (st : St) (u : PV), (∀ x ∈ xs, isX d j x = false) → shuts xs (put st j d u) = put (shuts xs st) j d u
  | [], _, _, _, _, _ => rfl
  | x :: xs, j, d, st, u, h => by
    simp only [shuts]
    rw [shut1_put st u (h x (List.mem_cons_self ..)), shuts_put _ _ (fun y hy => h y (List.mem_cons_of_mem _ hy))]

theorem shuts_sub (o : POp) : ∀ x ∈ shutsOf o, x ∈ readsOf o := by
  intro x hx
  cases o with
  | h o => cases o <;> simp [shutsOf, readsOf, readsOfH] at hx ⊢; exact hx
  | _ => simp [shutsOf] at hx

theorem app_put {p : PO} {q : PO} {jp jq : Nat} (hc : Comm jp p jq q) {d : Dm} (hd : Fits p.op d) (st : St) (u : PV) : d.app (put st jq q.dst u) = put (d.app st) jq q.dst u := by
  cases d with
  | none => rfl
  | heap h => cases q.dst <;> rfl
  | shut xs => exact shuts_put st u (fun x hx => hc.qp x (reads_sub p x (shuts_sub _ x (hd.2 ▸ hx))))
  | src y =>
    have hy := hc.qp y (reads_sub p y (takes_sub _ y hd))
    cases hq : q.dst with
    | n => rfl
    | v i =>
      rw [hq] at hy
      cases y with
      | c z => rfl
      | l k => rfl
      | v k => simp [isX, sameX] at hy; simp only [Dm.app, put]; rw [set_modify _ _ _ _ _ hy]
    | l =>
      rw [hq] at hy
      cases y with
      | c z => rfl
      | v k => rfl
      | l k => simp [isX, sameX] at hy; simp only [Dm.app, put]; rw [set_modify _ _ _ _ _ hy]
  | cell s off =>
    cases hq : q.dst with
    | n => rfl
    | l => rfl
    | v i =>
      have h0 := hc.qv (by rw [hq]; rfl)
      have h3 : memOf p.op = 3 := hd
      omega

theorem put_put {jp jq : Nat} {d d' : PD} (hj : jp ≠ jq) (h : sameD d d' = false) (st : St) (u u' : PV) : put (put st jp d u) jq d' u' = put (put st jq d' u') jp d u := by
  cases d <;> cases d' <;> simp [sameD] at h <;> simp only [put] <;> (try rfl)
  · rw [List.set_comm _ _ h]
  · rw [List.set_comm _ _ hj]

/-- Two neighbours change places. -/
theorem swap {cf : CallF} {jp jq : Nat} {p q : PO} (hj : jp ≠ jq) (hc : Comm jp p jq q) {st st1 st2 : St} (h1 : step1 cf jp p st = some st1) (h2 : step1 cf jq q st1 = some st2) :
    ∃ st1', step1 cf jq q st = some st1' ∧ step1 cf jp p st1' = some st2 := by
  obtain ⟨d, u, e1, f1, s1⟩ := step1_dm hc.mp h1
  obtain ⟨d', u', e2, f2, s2⟩ := step1_dm hc.mq h2
  subst e1
  have hq := s2 st (sim_change hc f1 st u).2
  refine ⟨_, hq, ?_⟩
  have hp := s1 _ (sim_change hc.symm f2 st u').1
  rw [hp, e2]
  congr 1
  rw [app_put hc f1, app_put hc.symm f2, app_app f1 f2 hc.mm hc.m4 hc.h2]
  exact put_put (fun e => hj e.symm) (by rw [sameD_symm]; exact hc.dd) _ _ _

theorem execL_front {cf : CallF} {pos : List PO} {i : Nat} {q : PO} (hi : pos[i]? = some q) {post : List Nat} : ∀ {pre : List Nat} {st st' : St}, (∀ j ∈ pre, j ≠ i ∧ ∀ p, pos[j]? = some p → Comm j p i q) →
    execL cf pos (pre ++ i :: post) st = some st' → execL cf pos (i :: (pre ++ post)) st = some st'
  | [], st, st', _, h => h
  | j :: pre, st, st', hc, h => by
    simp only [List.cons_append, execL] at h
    split at h
    · rename_i p hp
      simp only [Option.bind_eq_some_iff] at h
      obtain ⟨st1, h1, h2⟩ := h
      have ih := execL_front hi (fun j' hj' => hc j' (by simp [hj'])) h2
      simp only [execL, hi, Option.bind_eq_some_iff] at ih
      obtain ⟨st2, h3, h4⟩ := ih
      obtain ⟨hj, hcm⟩ := hc j (by simp)
      obtain ⟨st1', h5, h6⟩ := swap hj (hcm p hp) h1 h3
      simp only [List.cons_append, execL, hi, hp, h5, Option.bind_some, h6]
      exact h4
    · simp at h

/-! ### Orders -/

/-- `j` is before `i` by the listed edges. -/
inductive Pre (ops : Array Oper) : Nat → Nat → Prop where
  | edge {i : Nat} {o : Oper} {e : Edge} (ho : ops[i]? = some o) (he : e ∈ o.after) (hb : Region.binds .any e = true) : Pre ops e.on i
  | far {i j : Nat} {o : Oper} {e : Edge} (ho : ops[i]? = some o) (he : e ∈ o.after) (hb : Region.binds .any e = true) (h : Pre ops j e.on) : Pre ops j i

def force {α : Type} (m : Nat) (f : Nat → α) : α :=
  match m with
  | 0 => f 0
  | n + 1 => f (n + 1)

theorem force_eq {α : Type} (m : Nat) (f : Nat → α) : force m f = f m := by cases m <;> rfl

/-- The bits of a row. -/
def wide : Nat := 1024

/-- What comes before an operation, as bits; `M` holds the rows so far, 1024 bits each. -/
def rowOf (M : Nat) : List Edge → Nat → Nat
  | [], m => m
  | e :: es, m => if Region.binds .any e then force (m ||| 1 <<< e.on ||| M >>> (e.on * 1024) % 2 ^ wide) (rowOf M es) else rowOf M es m

def rows : List Oper → Nat → Nat → Nat
  | [], _, M => M
  | o :: os, i, M => force (M ||| (rowOf M o.after.toList 0 % 2 ^ wide) <<< (i * 1024)) (rows os (i + 1))

def GoodM (ops : Array Oper) (M : Nat) : Prop := ∀ i j, j < 1024 → M.testBit (i * 1024 + j) = true → Pre ops j i

theorem rowOf_ok {ops : Array Oper} {M : Nat} (hM : GoodM ops M) {i : Nat} {o : Oper} (ho : ops[i]? = some o) : ∀ (es : List Edge) (m : Nat), (∀ e ∈ es, e ∈ o.after) → (∀ j, j < 1024 → m.testBit j = true → Pre ops j i) → ∀ j, j < 1024 → (rowOf M es m).testBit j = true → Pre ops j i
  | [], m, _, hm => hm
  | e :: es, m, hes, hm => by
    intro j hj h
    simp only [rowOf] at h
    split at h
    · rename_i hb
      rw [force_eq] at h
      refine rowOf_ok hM ho es _ (fun x hx => hes x (by simp [hx])) ?_ j hj h
      intro k hk hk2
      simp only [Nat.testBit_or, Bool.or_eq_true] at hk2
      rcases hk2 with (hk2 | hk2) | hk2
      · exact hm k hk hk2
      · rw [Nat.one_shiftLeft, Nat.testBit_two_pow] at hk2
        have : e.on = k := by simpa using hk2
        exact this ▸ Pre.edge ho (hes e (by simp)) hb
      · rw [Nat.testBit_mod_two_pow, Nat.testBit_shiftRight] at hk2
        simp only [Bool.and_eq_true] at hk2
        exact Pre.far ho (hes e (by simp)) hb (hM e.on k hk hk2.2)
    · exact rowOf_ok hM ho es m (fun x hx => hes x (by simp [hx])) hm j hj h

theorem rows_ok {ops : Array Oper} : ∀ (os : List Oper) (i M : Nat), (∀ k, os[k]? = ops[i + k]?) → GoodM ops M → GoodM ops (rows os i M)
  | [], _, _, _, hM => hM
  | o :: os, i, M, hs, hM => by
    simp only [rows, force_eq]
    have ho : ops[i]? = some o := by simpa using (hs 0).symm
    refine rows_ok os (i + 1) _ (fun k => by have := hs (k + 1); simp only [List.getElem?_cons_succ] at this; rw [this]; congr 1; omega) ?_
    intro a j hj h
    simp only [Nat.testBit_or, Bool.or_eq_true] at h
    rcases h with h | h
    · exact hM a j hj h
    · rw [Nat.testBit_shiftLeft, Nat.testBit_mod_two_pow] at h
      simp only [Bool.and_eq_true, decide_eq_true_eq] at h
      obtain ⟨h1, h2, h3⟩ := h
      have hw : wide = 1024 := rfl
      have ha : a = i := by omega
      subst ha
      rw [Nat.add_sub_cancel_left] at h3
      exact rowOf_ok hM ho o.after.toList 0 (by simp) (by simp) j hj h3

def pairOk (M : Nat) (pos : List PO) (i j : Nat) : Bool :=
  (match pos[j]?, pos[i]? with
  | some p, some q => comm j p i q
  | _, _ => false) || (decide (j < 1024) && M.testBit (i * 1024 + j))

def orderM (ops : Array Oper) (pos : List PO) (M : Nat) : Bool :=
  (List.range ops.size).all fun i => (match ops[i]? with | some o => o.after.all (fun e => !Region.binds .any e || decide (e.on < i)) | none => true) && (List.range i).all (pairOk M pos i)

def orderOk (ops : Array Oper) (pos : List PO) : Bool := force (rows ops.toList 0 0) (orderM ops pos)

def Closed (ops : Array Oper) (listed : Array Bool) : Prop :=
  ∀ (k : Nat) (o : Oper), ops[k]? = some o → listed.getD k false = true → ∀ e ∈ o.after, Region.binds .any e = true → listed.getD e.on false = true

theorem pred_listed {ops : Array Oper} {listed : Array Bool} (hcl : Closed ops listed) {j i : Nat} (h : Pre ops j i) : ∀ {o : Oper}, ops[i]? = some o → (∀ e ∈ o.after, Region.binds .any e = true → listed.getD e.on false = true) → listed.getD j false = true := by
  induction h with
  | edge ho he hb => intro o ho' hl; rw [ho] at ho'; cases ho'; exact hl _ he hb
  | @far i j o1 e ho he hb hp ih =>
    intro o ho' hl; rw [ho] at ho'; cases ho'
    have hon := hl _ he hb
    cases h' : ops[e.on]? with
    | none => exfalso; cases hp with
      | edge h1 => rw [h'] at h1; cases h1
      | far h1 => rw [h'] at h1; cases h1
    | some o' => exact ih h' (hcl e.on o' h' hon)

def remOf (n : Nat) (listed : Array Bool) : List Nat := (List.range n).filter fun i => !listed.getD i false

theorem filter_split {l : List Nat} {f : Nat → Bool} {i : Nat} (hs : l.Pairwise (· < ·)) (hi : i ∈ l) (hf : f i = true) :
    ∃ pre post, l.filter f = pre ++ i :: post ∧ (∀ j ∈ pre, j < i ∧ j ∈ l ∧ f j = true) ∧ l.filter (fun k => f k && k != i) = pre ++ post := by
  induction l with
  | nil => simp at hi
  | cons x xs ih =>
    rw [List.pairwise_cons] at hs
    rcases List.mem_cons.1 hi with rfl | hi
    · refine ⟨[], xs.filter f, by simp [hf], by simp, ?_⟩
      simp only [List.filter_cons, hf, bne_self_eq_false, Bool.and_false, Bool.false_eq_true, if_false, List.nil_append]
      apply List.filter_congr
      intro k hk
      have : k ≠ i := fun e => by have := hs.1 k hk; omega
      simp [this]
    · obtain ⟨pre, post, h1, h2, h3⟩ := ih hs.2 hi
      have hlt := hs.1 i hi
      have hne : (x != i) = true := by simp; omega
      by_cases hx : f x = true
      · refine ⟨x :: pre, post, by simp [hx, h1], ?_, by simp [List.filter_cons, hx, hne, h3]⟩
        intro j hj
        rcases List.mem_cons.1 hj with rfl | hj
        · exact ⟨hlt, by simp, hx⟩
        · obtain ⟨a, b, c⟩ := h2 j hj
          exact ⟨a, by simp [b], c⟩
      · refine ⟨pre, post, by simp [hx, h1], ?_, by simp [List.filter_cons, hx, h3]⟩
        intro j hj
        obtain ⟨a, b, c⟩ := h2 j hj
        exact ⟨a, by simp [b], c⟩

section
variable {E : Env} {N : Nm} {vs : List Tmp} {P : Program} {ops : Array Oper} {Q : Exit → Act → World → Prop}

theorem any_sound {L : Nat → Option PFunc} (hF : FnsOK N P L) (hE : EnvOk E N) (hP : E.P = P) (nm : Names vs (lmap vs ops.toList)) {cf : CallF} (hcf : CallOK N P cf)
    (hcL : ∀ k args h r, cf k args h = some r → ∃ f, L k = some f) {pos : List PO} (hc : cOpers E vs ops.toList ops.toList = some pos) (hord : orderOk ops pos = true) :
    ∀ (fuel : Nat) {listed : Array Bool} {st st' : St} {w : World} {G : GS} {a : Act}, listed.size = ops.size → (remOf ops.size listed).length ≤ fuel → Closed ops listed → execL cf pos (remOf ops.size listed) st = some st' →
      FI N w G st a vs (lmap vs ops.toList) → Next1 N w G a st' vs ops.toList (Q .normal) → wpAny P .any ops Q fuel listed a w := by
  have hlen : ops.size = pos.length := by have := (cOpers_get hc).1; simpa using this
  have hGM : GoodM ops (rows ops.toList 0 0) := rows_ok _ _ _ (by simp) (fun i j _ h => by simp at h)
  have hord : orderM ops pos (rows ops.toList 0 0) = true := by rw [orderOk, force_eq] at hord; exact hord
  have hedge : ∀ i o, ops[i]? = some o → ∀ e ∈ o.after, Region.binds .any e = true → e.on < i := by
    intro i o ho e he hb
    have hi : i < ops.size := (Array.getElem?_eq_some_iff.1 ho).1
    have := List.all_eq_true.1 hord i (by simpa using hi)
    simp only [ho, Bool.and_eq_true, Array.all_eq_true_iff_forall_mem] at this
    have := this.1 e he
    simpa [hb] using this
  have hpair : ∀ i j, i < ops.size → j < i → pairOk (rows ops.toList 0 0) pos i j = true := by
    intro i j hi hj
    have := List.all_eq_true.1 hord i (by simpa using hi)
    simp only [Bool.and_eq_true] at this
    exact List.all_eq_true.1 this.2 j (by simpa using hj)
  have hready : ∀ {listed : Array Bool}, listed.size = ops.size → Region.ready .any ops listed = [] → remOf ops.size listed = [] := by
    intro listed hsz hr
    rcases List.eq_nil_or_concat (remOf ops.size listed) with h | ⟨_, _, h⟩
    · exact h
    · exfalso
      -- the least of what is left is ready
      cases hrem : remOf ops.size listed with
      | nil => rw [hrem] at h; simp at h
      | cons m rest =>
        have hm : m ∈ remOf ops.size listed := by rw [hrem]; simp
        simp only [remOf, List.mem_filter, List.mem_range, Bool.not_eq_true'] at hm
        have hsort : (remOf ops.size listed).Pairwise (· < ·) := List.Pairwise.filter _ List.pairwise_lt_range
        rw [hrem, List.pairwise_cons] at hsort
        have hmr : m ∈ Region.ready .any ops listed := by
          rw [mem_ready]
          refine ⟨?_, ops[m], by simp [hm.1], ?_⟩
          · have := hm.2
            simp only [Array.getD_eq_getD_getElem?] at this ⊢
            have hlt : m < listed.size := by omega
            simpa [hlt] using this
          · intro e he hb
            have hlt := hedge m ops[m] (by simp [hm.1]) e he hb
            cases hl : listed.getD e.on false with
            | true => rfl
            | false =>
              have hin : e.on ∈ remOf ops.size listed := by
                simp only [remOf, List.mem_filter, List.mem_range, hl, Bool.not_false, and_true]
                omega
              rw [hrem] at hin
              rcases List.mem_cons.1 hin with h | h
              · omega
              · have := hsort.1 _ h; omega
        rw [hr] at hmr
        simp at hmr
  intro fuel
  induction fuel with
  | zero =>
    intro listed st st' w G a hsz hl hcl hx hf hk
    have h0 : remOf ops.size listed = [] := List.length_eq_zero_iff.1 (by omega)
    rw [h0] at hx
    simp [execL] at hx; subst hx
    refine ⟨?_, hk _ _ G hf (Ext.refl _ _) rfl⟩
    refine List.eq_nil_iff_forall_not_mem.2 fun i hi => ?_
    rw [mem_ready] at hi
    obtain ⟨hi1, o, ho, _⟩ := hi
    have hlt : i < ops.size := (Array.getElem?_eq_some_iff.1 ho).1
    have : i ∈ remOf ops.size listed := by
      simp only [remOf, List.mem_filter, List.mem_range, hlt, true_and]
      have hl' : i < listed.size := by omega
      simp only [Array.getD_eq_getD_getElem?] at hi1 ⊢
      simpa [hl'] using hi1
    rw [h0] at this
    simp at this
  | succ fuel ih =>
    intro listed st st' w G a hsz hl hcl hx hf hk
    refine ⟨?_, ?_⟩
    · intro hr
      rw [hready hsz hr] at hx
      simp [execL] at hx; subst hx
      exact hk _ _ G hf (Ext.refl _ _) rfl
    · intro i hi
      rw [mem_ready] at hi
      obtain ⟨hi1, o, ho, hpre⟩ := hi
      have hlt : i < ops.size := (Array.getElem?_eq_some_iff.1 ho).1
      have hun : listed.getD i false = false := by
        have hl' : i < listed.size := by omega
        simp only [Array.getD_eq_getD_getElem?] at hi1 ⊢
        simpa [hl'] using hi1
      obtain ⟨q, hq, hcq⟩ := (cOpers_get hc).2 i o (by simpa using ho)
      obtain ⟨pre, post, e1, e2, e3⟩ := filter_split (f := fun k => !listed.getD k false) (List.pairwise_lt_range (n := ops.size)) (by simpa using hlt) (by simp only [hun]; rfl)
      have hx' : execL cf pos (i :: (pre ++ post)) st = some st' := by
        refine execL_front hq ?_ (by rw [← e1]; exact hx)
        intro j hj
        obtain ⟨a1, a2, a3⟩ := e2 j hj
        refine ⟨by omega, fun p hp => ?_⟩
        have hpo := hpair i j hlt a1
        simp only [pairOk, hp, hq, Bool.or_eq_true] at hpo
        rcases hpo with h | h
        · exact comm_spec h
        · simp only [Bool.and_eq_true, decide_eq_true_eq] at h
          have := pred_listed hcl (hGM i j h.1 h.2) ho hpre
          simp only [this] at a3
          simp at a3
      simp only [execL, hq, Option.bind_eq_some_iff] at hx'
      obtain ⟨st1, hs1, hs2⟩ := hx'
      refine step1_sound hF hE hP nm ho hf hcf hcL hcq hs1 ?_
      intro a' w' G' hf' he hsize
      have hrem : remOf ops.size (listed.setIfInBounds i true) = pre ++ post := by
        rw [← e3]
        unfold remOf
        apply List.filter_congr
        intro k hk'
        by_cases hki : k = i
        · subst hki
          have hl' : k < listed.size := by omega
          simp [Array.getD_eq_getD_getElem?, Array.getElem?_setIfInBounds, hl']
        · rw [getD_set_ne _ (Ne.symm hki)]
          simp [hki]
      refine ih (by simp [hsz]) ?_ ?_ (by rw [hrem]; exact hs2) hf' (hk.trans he hsize)
      · rw [hrem]
        have : (remOf ops.size listed).length = (pre ++ i :: post).length := by unfold remOf; rw [e1]
        simp at this ⊢
        omega
      · intro k o' ho' hk1 e he' hb
        by_cases hki : k = i
        · subst hki
          have : o' = o := by rw [ho] at ho'; simpa using ho'.symm
          subst this
          exact getD_set_true (hpre e he' hb)
        · rw [getD_set_ne _ (Ne.symm hki)] at hk1
          exact getD_set_true (hcl k o' ho' hk1 e he' hb)

end
end PI
