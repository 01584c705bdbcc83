/-
  Running without fuel: what a run comes to when it has enough, with an equation for each form of code.
-/
import Derived.Test.YtaejhojielbbdaaGreatDoorPiBase
set_option linter.unusedSimpArgs false
set_option linter.unusedVariables false
set_option linter.unusedSectionVars false
namespace PI
def CfLe (cf cf' : CallF) : Prop := ∀ k args h r, cf k args h = some r → cf' k args h = some r
theorem hopv_mono {cf cf' : CallF} (hc : CfLe cf cf') {o : HOp} {st : St} {r} (h : hopv cf o st = some r) : hopv cf' o st = some r := by
 cases o <;> try exact h
 case call k args =>
  simp only [hopv, Option.bind_eq_some_iff, Option.map_eq_some_iff] at h ⊢
  obtain ⟨vs, h1, q, h2, h3⟩ := h
  exact ⟨vs, h1, q, hc _ _ _ _ h2, h3⟩
 case zcall k args =>
  simp only [hopv, Option.bind_eq_some_iff] at h ⊢
  obtain ⟨vs, h1, h⟩ := h
  refine ⟨vs, h1, ?_⟩
  split at h
  ·rename_i hw
   rw [if_pos hw]
   simp only [Option.bind_eq_some_iff] at h ⊢
   obtain ⟨q, h4, h5⟩ := h
   exact ⟨q, hc _ _ _ _ h4, h5⟩
  ·simp at h
 case rcall k args =>
  simp only [hopv, Option.bind_eq_some_iff] at h ⊢
  obtain ⟨vs, h1, q, h2, h3⟩ := h
  exact ⟨vs, h1, q, hc _ _ _ _ h2, h3⟩
 case lcall k args =>
  simp only [hopv, lendTo, Option.bind_eq_some_iff] at h ⊢
  obtain ⟨vs, h1, ws, h2, h3⟩ := h
  refine ⟨vs, h1, ws, h2, ?_⟩
  split at h3
  ·rename_i hw
   rw [if_pos hw]
   simp only [Option.bind_eq_some_iff] at h3 ⊢
   obtain ⟨q, h4, h5⟩ := h3
   exact ⟨q, hc _ _ _ _ h4, h5⟩
  ·simp at h3
 case icall tab x args =>
  simp only [hopv, Option.bind_eq_some_iff, Option.map_eq_some_iff] at h ⊢
  obtain ⟨m, h0, vs, h1, q, h2, h3⟩ := h
  exact ⟨m, h0, vs, h1, q, hc _ _ _ _ h2, h3⟩
 case callv x args =>
  simp only [hopv] at h ⊢
  split at h
  ·simp only [Option.map_eq_some_iff] at h ⊢
   obtain ⟨q, h2, h3⟩ := h
   exact ⟨q, hc _ _ _ _ h2, h3⟩
  ·simp at h
theorem opv_mono {cf cf' : CallF} (hc : CfLe cf cf') {o : POp} {st : St} {r} (h : opv cf o st = some r) : opv cf' o st = some r := by
 cases o <;> try exact h
 case h o => exact hopv_mono hc h
 case pcall k args =>
  simp only [opv] at h ⊢
  split at h
  ·split at h
   ·rename_i hr
    simp only [hr, if_true]
    split at h
    ·rename_i hx; rw [hc _ _ _ _ hx]; exact h
    ·simp at h
   ·simp at h
  ·simp at h
 case pzcall k args =>
  simp only [opv] at h ⊢
  split at h
  ·split at h
   ·rename_i hr
    simp only [hr, if_true]
    split at h
    ·rename_i hx; rw [hc _ _ _ _ hx]; exact h
    ·simp at h
   ·simp at h
  ·simp at h
 case pcallx k args own =>
  simp only [opv] at h ⊢
  cases own with
  | none =>
    simp only at h ⊢
    split at h
    ·split at h
     ·rename_i hr
      simp only [hr, if_true]
      split at h
      ·rename_i hx; rw [hc _ _ _ _ hx]; exact h
      ·simp at h
     ·simp at h
    ·simp at h
  | some i =>
    simp only at h ⊢
    split at h
    ·split at h
     ·rename_i hr
      rw [if_pos hr]
      split at h
      ·rename_i hx; rw [hc _ _ _ _ hx]; exact h
      ·simp at h
     ·simp at h
    ·simp at h
 case callv x args =>
  simp only [opv] at h ⊢
  split at h
  ·split at h
   ·rename_i hr
    simp only [hr, if_true]
    split at h
    ·rename_i hx; rw [hc _ _ _ _ hx]; exact h
    ·simp at h
   ·simp at h
  ·simp at h
theorem step1_mono {cf cf' : CallF} (hc : CfLe cf cf') {j : Nat} {o : PO} {st : St} {r} (h : step1 cf j o st = some r) : step1 cf' j o st = some r := by
 simp only [step1] at h ⊢
 split at h
 ·simp only [Option.map_eq_some_iff] at h ⊢
  obtain ⟨a, h1, h2⟩ := h
  exact ⟨a, opv_mono hc h1, h2⟩
 ·split at h
  ·split at h
   ·rename_i hb
    simp only [if_pos hb, Option.map_eq_some_iff] at h ⊢
    obtain ⟨a, h1, h2⟩ := h
    exact ⟨a, opv_mono hc h1, h2⟩
   ·rename_i hb
    rw [if_neg hb]; exact h
  ·exact h
  ·simp at h
theorem execFrom_mono {cf cf' : CallF} (hc : CfLe cf cf') : ∀ {os : List PO} {j : Nat} {st : St} {r}, execFrom cf j os st = some r → execFrom cf' j os st = some r
 | [], _, _, _, h => h
 | o :: os, j, st, r, h => by
   simp only [execFrom, Option.bind_eq_some_iff] at h ⊢
   obtain ⟨a, h1, h2⟩ := h
   exact ⟨a, step1_mono hc h1, execFrom_mono hc h2⟩
theorem execOps_mono {cf cf' : CallF} (hc : CfLe cf cf') {os : List PO} {st : St} {r} (h : execOps cf os st = some r) : execOps cf' os st = some r := execFrom_mono hc h
theorem agreeL_all : ∀ {l : List (Option St)} {r : St}, l ≠ [] → (∀ x ∈ l, x = some r) → agreeL l = some r
 | [], _, h, _ => absurd rfl h
 | [y], r, _, h => by simp only [agreeL]; exact h y (by simp)
 | y :: z :: l, r, _, h => by
   have h1 := agreeL_all (l := z :: l) (by simp) (fun x hx => h x (List.mem_cons_of_mem _ hx))
   have h2 := h y (by simp)
   simp only [agreeL, h1, h2, if_true]
theorem agreeL_map {l : List Nat} {f g : Nat → Option St} {r : St} (h : agreeL (l.map f) = some r) (hfg : ∀ k ∈ l, ∀ s, f k = some s → g k = some s) : agreeL (l.map g) = some r := by
 refine agreeL_all ?_ ?_
 ·intro e
  have : l = [] := by simpa using e
  subst this
  simp [agreeL] at h
 ·intro x hx
  obtain ⟨k, hk, rfl⟩ := List.mem_map.1 hx
  exact hfg k hk r (agreeL_mem h (f k) (List.mem_map.2 ⟨k, hk, rfl⟩))
theorem stepAt_mono {cf cf' : CallF} (hc : CfLe cf cf') {pos : List PO} {i : Nat} {st : St} {r} (h : stepAt cf pos i st = some r) : stepAt cf' pos i st = some r := by
 unfold stepAt at h ⊢
 split at h
 ·exact step1_mono hc h
 ·cases h
theorem execAny_mono {cf cf' : CallF} (hc : CfLe cf cf') {pos : List PO} {bef : List (List Nat)} {fr : List Bool} : ∀ {n : Nat} {rem : List Nat} {st : St} {r}, execAny cf pos bef fr n rem st = some r → execAny cf' pos bef fr n rem st = some r
 | 0, [], st, r, h => by simpa [execAny] using h
 | _ + 1, [], st, r, h => by simpa [execAny] using h
 | 0, _ :: _, _, _, h => by simp [execAny] at h
 | n + 1, i :: rest, st, r, h => by
   rw [execAny] at h ⊢
   split at h
   ·simp only [Option.bind_eq_some_iff] at h ⊢
    obtain ⟨a, h1, h2⟩ := h
    exact ⟨a, stepAt_mono hc h1, execAny_mono hc h2⟩
   ·refine agreeL_map h ?_
    intro k _ s hs
    simp only [Option.bind_eq_some_iff] at hs ⊢
    obtain ⟨a, h1, h2⟩ := hs
    exact ⟨a, stepAt_mono hc h1, execAny_mono hc h2⟩
theorem execA_mono {cf cf' : CallF} (hc : CfLe cf cf') {os : List PO} {st : St} {r} (h : execA cf os st = some r) : execA cf' os st = some r := by
 unfold execA at h ⊢
 split at h
 ·exact execAny_mono hc h
 ·cases h
theorem execReg_mono {cf cf' : CallF} (hc : CfLe cf cf') {os : List PO} {st : St} {r} (h : execReg cf os st = some r) : execReg cf' os st = some r := by
 unfold execReg at h ⊢
 split at h
 ·rename_i ha; rw [if_pos ha]; exact execA_mono hc h
 ·rename_i ha; rw [if_neg ha]; exact execOps_mono hc h
def OutLe (ob ob' : OutF) : Prop := ∀ k args h r, ob k args h = some r → ob' k args h = some r
theorem runRound_mono {ex ex' : PC → St → Option (PExit × St)} (he : ∀ c st r, ex c st = some r → ex' c st = some r) {nv : Nat} {a b : PC} {args : List PV} {h : List PObj} {r} (hr : runRound ex nv a b args h = some r) : runRound ex' nv a b args h = some r := by
 unfold runRound at hr ⊢
 split at hr
 ·split at hr
  ·rename_i h1 h2
   simp only [h1, he _ _ _ h2]
   split at hr
   all_goals first
    | (rename_i h3 h4; simp only [h3, he _ _ _ h4]; exact hr)
    | simp at hr
  ·simp at hr
 ·simp at hr
theorem runOut_mono {ex ex' : PC → St → Option (PExit × St)} (he : ∀ c st r, ex c st = some r → ex' c st = some r) {dfr} {f : PFunc} {args : List PV} {h : List PObj} {r} (hr : runOut ex dfr f args h = some r) : runOut ex' dfr f args h = some r := by
 unfold runOut at hr ⊢
 split at hr
 ·exact runRound_mono he hr
 ·split at hr
  ·rename_i hx; rw [he _ _ _ hx]; exact hr
  ·rename_i hx; rw [he _ _ _ hx]; exact hr
  ·rename_i hx; rw [he _ _ _ hx]; exact hr
  ·rename_i hx; rw [he _ _ _ hx]; exact hr
  ·simp at hr
theorem valOf_some {x : Option (Out × List PObj)} {r} : valOf x = some r ↔ x = some (.val r.1, r.2) := by
 obtain ⟨v, h⟩ := r
 unfold valOf
 split
 ·simp
 ·rename_i hne
  constructor
  ·intro e; cases e
  ·intro e; exact absurd e (hne v h)
theorem runFn_mono {ex ex' : PC → St → Option (PExit × St)} (he : ∀ c st r, ex c st = some r → ex' c st = some r) {dfr} {f : PFunc} {args : List PV} {h : List PObj} {r} (hr : runFn ex dfr f args h = some r) : runFn ex' dfr f args h = some r := by
 simp only [runFn] at hr ⊢
 split at hr
 ·simp at hr
 ·rename_i hn
  rw [if_neg hn]
  rw [valOf_some] at hr ⊢
  exact runOut_mono he hr
theorem agree_some {a b : Option (PV × List PObj)} {r} : agree a b = some r ↔ a = some r ∧ b = some r := by
 unfold agree
 constructor
 ·intro h
  split at h
  ·rename_i he; exact ⟨h, he ▸ h⟩
  ·simp at h
 ·rintro ⟨rfl, rfl⟩; simp
theorem runOwn_mono {ex ex' : PC → St → Option (PExit × St)} (he : ∀ c st r, ex c st = some r → ex' c st = some r) {f : PFunc} {o : Option Nat} {args : List PV} {h : List PObj} {r} (hr : runOwn ex f o args h = some r) : runOwn ex' f o args h = some r := by
 unfold runOwn at hr ⊢
 split at hr
 ·simp at hr
 ·rename_i hn
  rw [if_neg hn]
  split at hr
  ·rename_i hx; rw [he _ _ _ hx]; exact hr
  ·rename_i hx; rw [he _ _ _ hx]; exact hr
  ·simp at hr
theorem ownWith_mono {ex ex' : PC → St → Option (PExit × St)} (he : ∀ c st r, ex c st = some r → ex' c st = some r) {f : PFunc} {args : List PV} {h : List PObj} {r} (hr : ownWith ex f args h = some r) : ownWith ex' f args h = some r := by
 unfold ownWith at hr ⊢
 split at hr
 ·split at hr
  ·rename_i hd
   try simp only [hd]
   split at hr
   ·rename_i hl
    rw [if_pos hl]
    split at hr
    ·rename_i hs
     rw [agree_some] at hr
     rw [if_pos hs, agree_some]
     exact ⟨runOwn_mono he hr.1, runOwn_mono he hr.2⟩
    ·rename_i hs
     rw [if_neg hs]
     exact runOwn_mono he hr
   ·simp at hr
  ·simp at hr
 ·simp at hr
theorem callWith_mono {ex ex' : PC → St → Option (PExit × St)} (he : ∀ c st r, ex c st = some r → ex' c st = some r) (L : Nat → Option PFunc) : CfLe (callWith ex L) (callWith ex' L) := by
 intro k args h r hr
 simp only [callWith] at hr ⊢
 split at hr
 ·simp at hr
 ·split at hr
  ·rename_i hl
   simp only [if_pos hl]
   split at hr
   ·exact hr
   split at hr
   ·rename_i hs
    rw [agree_some] at hr
    rw [if_pos hs, agree_some]
    exact ⟨runFn_mono he hr.1, runFn_mono he hr.2⟩
   ·rename_i hs
    rw [if_neg hs]
    exact runFn_mono he hr
  ·rename_i hl
   rw [if_neg hl]
   exact ownWith_mono he hr
theorem outWith_mono {ex ex' : PC → St → Option (PExit × St)} (he : ∀ c st r, ex c st = some r → ex' c st = some r) (L : Nat → Option PFunc) : OutLe (outWith ex L) (outWith ex' L) := by
 intro k args h r hr
 simp only [outWith] at hr ⊢
 split at hr
 ·simp at hr
 ·split at hr
  ·rename_i hl
   simp only [if_pos hl]
   split at hr
   ·exact hr
   ·exact runOut_mono he hr
  ·simp at hr
theorem bstep_mono {cf cf' : CallF} {ob ob' : OutF} (hc : CfLe cf cf') (hb : OutLe ob ob') {j : Nat} {o : PO} {st : St} {r} (h : bstep cf ob j o st = some r) : bstep cf' ob' j o st = some r := by
 unfold bstep at h ⊢
 split at h
 ·split at h
  ·rename_i vs hvs
   split at h
   ·rename_i h1; simp only [hvs, hb _ _ _ _ h1]; exact h
   ·rename_i h1; simp only [hvs, hb _ _ _ _ h1]; exact h
   ·simp at h
  ·simp at h
 ·split at h
  ·rename_i hf vs
   split at h
   ·rename_i h1; simp only [hf, vs, hb _ _ _ _ h1]; exact h
   ·rename_i h1; simp only [hf, vs, hb _ _ _ _ h1]; exact h
   ·simp at h
  ·simp at h
 ·simp at h
 ·simp at h
 ·simp only [Option.map_eq_some_iff] at h ⊢
  obtain ⟨a, h1, h2⟩ := h
  exact ⟨a, step1_mono hc h1, h2⟩
theorem brun_mono {cf cf' : CallF} {ob ob' : OutF} (hc : CfLe cf cf') (hb : OutLe ob ob') : ∀ {os : List PO} {j : Nat} {st : St} {r}, brun cf ob j os st = some r → brun cf' ob' j os st = some r
 | [], _, _, _, h => h
 | o :: os, j, st, r, h => by
   simp only [brun] at h ⊢
   split at h
   ·rename_i h1
    rw [bstep_mono hc hb h1]
    exact brun_mono hc hb h
   ·rename_i hne
    rw [bstep_mono hc hb h]
    split
    ·rename_i h1
     simp only [Option.some.injEq] at h1
     subst h1
     exact absurd h (hne _)
    ·rfl
section
variable {L : Nat → Option PFunc}
theorem roundM_mono {cf cf' : CallF} (hc : CfLe cf cf') {ds : List Nat} {pos2 pos3 : List PO} {e : PV × PV} {st : St} {r} (h : roundM cf ds pos2 pos3 e st = some r) : roundM cf' ds pos2 pos3 e st = some r := by
 simp only [roundM, Option.bind_eq_some_iff, Option.map_eq_some_iff] at h ⊢
 obtain ⟨a, h1, b, h2, h3⟩ := h
 exact ⟨a, execFrom_mono hc h1, b, execReg_mono hc h2, h3⟩
theorem headM_mono {cf cf' : CallF} (hc : CfLe cf cf') {ds : List Nat} {pos2 pos3 : List PO} {m it : Nat} {es : List (PV × PV)} {st : St}
  (h : ∀ e ∈ es, roundM cf ds pos2 pos3 e (headM cf ds pos2 pos3 m it es st) = some (headM cf ds pos2 pos3 m it es st)) : headM cf' ds pos2 pos3 m it es st = headM cf ds pos2 pos3 m it es st := by
 cases es with
 | nil => rfl
 | cons e es =>
   have h1 := h e (by simp)
   unfold headM at h1 ⊢
   simp only at h1 ⊢
   generalize killM ds _ = s1 at h1 ⊢
   cases hr : roundM cf ds pos2 pos3 e s1 with
   | none =>
     simp only [hr, blobM] at h1
     cases h1
   | some s => rw [roundM_mono hc hr]
theorem runM_mono {cf cf' : CallF} (hc : CfLe cf cf') {pos0 : List PO} {x : PX} {it : Nat} {ds : List Nat} {pos2 pos3 : List PO} {st : St} {r} (h : runM cf pos0 x it ds pos2 pos3 st = some r) : runM cf' pos0 x it ds pos2 pos3 st = some r := by
 simp only [runM, Option.bind_eq_some_iff] at h ⊢
 obtain ⟨st0, h1, h2⟩ := h
 refine ⟨st0, execFrom_mono hc h1, ?_⟩
 split at h2
 ·rename_i m hm
  split at h2
  ·rename_i es hes
   split at h2
   ·rename_i hc2
    have h3 := hc2.1
    simp only [List.all_eq_true, decide_eq_true_eq] at h3
    rw [headM_mono hc h3, if_pos]
    ·exact h2
    ·refine ⟨?_, hc2.2⟩
     simp only [List.all_eq_true, decide_eq_true_eq]
     exact fun e he => roundM_mono hc (h3 e he)
   ·cases h2
  ·cases h2
 ·cases h2
theorem exec_sim {L L' : Nat → Option PFunc} (K : Nat) (hnr : ∀ k, noRound L' k = noRound L k)
  (hsim : ∀ n, (∀ c st r, exec L' n c st = some r → exec L (n + K) c st = some r) → CfLe (callWith (exec L' n) L') (callWith (exec L (n + K)) L) ∧ OutLe (outWith (exec L' n) L') (outWith (exec L (n + K)) L)) :
  ∀ (n : Nat) (c : PC) (st : St) (r), exec L' n c st = some r → exec L (n + K) c st = some r
 | 0, c, st, r, h => by simp [exec] at h
 | n + 1, c, st, r, h => by
   have ih := exec_sim K hnr hsim n
   obtain ⟨hcf, hob⟩ := hsim n ih
   rw [show n + 1 + K = n + K + 1 by omega]
   rw [exec.eq_def] at h ⊢
   cases c with
   | skip => exact h
   | exit id => exact h
   | ret => exact h
   | region ops =>
     simp only [Option.map_eq_some_iff] at h ⊢
     obtain ⟨a, h1, h2⟩ := h
     exact ⟨a, execReg_mono hcf h1, h2⟩
   | branch ops x a b =>
     try simp only at h
     try simp only
     split at h
     ·rename_i h1
      rw [execReg_mono hcf h1]
      simp only
      split at h
      ·rename_i h2
       exact ih _ _ _ h
      ·simp at h
     ·simp at h
   | seq a b =>
     try simp only at h
     try simp only
     split at h
     ·rename_i h1
      rw [ih _ _ _ h1]
      exact ih _ _ _ h
     ·simp at h
     ·rename_i hne hna
      rw [ih _ _ _ h]
      split
      ·rename_i h1; cases h1; exact absurd h (hne _)
      ·rename_i h1; cases h1; exact absurd h (hna _ _ _ _)
      ·rfl
   | block id c =>
     try simp only at h
     try simp only
     split at h
     ·rename_i h1
      rw [ih _ _ _ h1]; exact h
     ·simp at h
     ·rename_i hne hna
      rw [ih _ _ _ h]
      split
      ·rename_i h1; cases h1; exact absurd h (hne _ _)
      ·rename_i h1; cases h1; exact absurd h (hna _ _ _ _)
      ·rfl
   | loop c =>
     try simp only at h
     try simp only
     split at h
     ·rename_i h1
      rw [ih _ _ _ h1]
      exact ih _ _ _ h
     ·simp at h
     ·rename_i hne hna
      rw [ih _ _ _ h]
      split
      ·rename_i h1; cases h1; exact absurd h (hne _)
      ·rename_i h1; cases h1; exact absurd h (hna _ _ _ _)
      ·rfl
   | bregion ops =>
     try simp only at h
     try simp only
     split at h
     ·rename_i h1; rw [brun_mono hcf hob h1]; exact h
     ·rename_i h1; rw [brun_mono hcf hob h1]; exact h
     ·simp at h
   | bbranch ops x a b =>
     try simp only at h
     try simp only
     split at h
     ·rename_i h1
      rw [brun_mono hcf hob h1]
      simp only
      split at h
      ·exact ih _ _ _ h
      ·simp at h
     ·rename_i h1; rw [brun_mono hcf hob h1]; exact h
     ·simp at h
   | raise ops t x =>
     try simp only at h
     try simp only
     split at h
     ·rename_i h1; rw [execOps_mono hcf h1]; exact h
     ·simp at h
   | rangeF x kb caps =>
     try simp only at h
     try simp only
     split at h
     ·rename_i hf hcs
      try simp only [hf, hcs]
      split at h
      ·simp at h
      ·rename_i hn
       rw [if_neg (by rw [← hnr]; exact hn)]
       split at h
       ·rename_i h1; rw [hob _ _ _ _ h1]; exact h
       ·rename_i h1; rw [hob _ _ _ _ h1]; exact h
       ·simp at h
     ·simp at h
   | round a b => simp at h
   | mloop pos0 x it ds pos2 pos3 =>
     simp only [Option.map_eq_some_iff] at h ⊢
     obtain ⟨a, h1, h2⟩ := h
     exact ⟨a, runM_mono hcf h1, h2⟩
   | guarded kd caps c =>
     try simp only at h
     try simp only
     split at h
     ·simp at h
     ·rename_i hn
      rw [if_neg hn]
      split at h
      ·rename_i hcs
       split at h
       ·rename_i h1; rw [ih _ _ _ h1]; exact h
       ·rename_i h1; rw [ih _ _ _ h1]; exact h
       ·rename_i h1; rw [ih _ _ _ h1]; exact h
       ·simp at h
      ·simp at h
theorem exec_mono1 (n : Nat) (c : PC) (st : St) (r) (h : exec L n c st = some r) : exec L (n + 1) c st = some r :=
 exec_sim 1 (fun _ => rfl) (fun _ he => ⟨callWith_mono he L, outWith_mono he L⟩) n c st r h
theorem exec_mono {n m : Nat} (hnm : n ≤ m) {c : PC} {st : St} {r} (h : exec L n c st = some r) : exec L m c st = some r := by
 induction hnm with
 | refl => exact h
 | step _ ih => exact exec_mono1 _ _ _ _ ih
theorem call_mono {n m : Nat} (hnm : n ≤ m) : CfLe (call L n) (call L m) := callWith_mono (fun _ _ _ h => exec_mono hnm h) L
open Classical in
noncomputable def evL (L : Nat → Option PFunc) (c : PC) (st : St) : Option (PExit × St) :=
 if h : ∃ r, ∃ n, exec L n c st = some r then some h.choose else none
open Classical in
noncomputable def callL (L : Nat → Option PFunc) : CallF := fun k args hp =>
 if h : ∃ r, ∃ n, call L n k args hp = some r then some h.choose else none
theorem evL_iff {c : PC} {st : St} {r} : evL L c st = some r ↔ ∃ n, exec L n c st = some r := by
 unfold evL
 split
 ·rename_i h
  obtain ⟨n, hn⟩ := h.choose_spec
  constructor
  ·intro e; cases e; exact ⟨n, hn⟩
  ·rintro ⟨m, hm⟩
   have h1 := exec_mono (Nat.le_max_left n m) hn
   have h2 := exec_mono (Nat.le_max_right n m) hm
   rw [h1] at h2; exact h2
 ·rename_i h
  constructor
  ·intro e; cases e
  ·rintro ⟨m, hm⟩; exact absurd ⟨r, m, hm⟩ h
theorem callL_iff {k : Nat} {args : List PV} {hp : List PObj} {r} : callL L k args hp = some r ↔ ∃ n, call L n k args hp = some r := by
 unfold callL
 split
 ·rename_i h
  obtain ⟨n, hn⟩ := h.choose_spec
  constructor
  ·intro e; cases e; exact ⟨n, hn⟩
  ·rintro ⟨m, hm⟩
   have h1 := call_mono (Nat.le_max_left n m) _ _ _ _ hn
   have h2 := call_mono (Nat.le_max_right n m) _ _ _ _ hm
   rw [h1] at h2; exact h2
 ·rename_i h
  constructor
  ·intro e; cases e
  ·rintro ⟨m, hm⟩; exact absurd ⟨r, m, hm⟩ h
theorem call_le (n : Nat) : CfLe (call L n) (callL L) := fun _ _ _ _ h => callL_iff.2 ⟨n, h⟩
theorem out_mono {n m : Nat} (hnm : n ≤ m) : OutLe (outWith (exec L n) L) (outWith (exec L m) L) := outWith_mono (fun _ _ _ h => exec_mono hnm h) L
open Classical in
/-- How a call ends. -/
noncomputable def outL (L : Nat → Option PFunc) : OutF := fun k args hp =>
 if h : ∃ r, ∃ n, outWith (exec L n) L k args hp = some r then some h.choose else none
theorem outL_iff {k : Nat} {args : List PV} {hp : List PObj} {r} : outL L k args hp = some r ↔ ∃ n, outWith (exec L n) L k args hp = some r := by
 unfold outL
 split
 ·rename_i h
  obtain ⟨n, hn⟩ := h.choose_spec
  constructor
  ·intro e; cases e; exact ⟨n, hn⟩
  ·rintro ⟨m, hm⟩
   have h1 := out_mono (Nat.le_max_left n m) _ _ _ _ hn
   have h2 := out_mono (Nat.le_max_right n m) _ _ _ _ hm
   rw [h1] at h2; exact h2
 ·rename_i h
  constructor
  ·intro e; cases e
  ·rintro ⟨m, hm⟩; exact absurd ⟨r, m, hm⟩ h
theorem out_le (n : Nat) : OutLe (outWith (exec L n) L) (outL L) := fun _ _ _ _ h => outL_iff.2 ⟨n, h⟩
theorem hopv_lim {o : HOp} {st : St} {r} (h : hopv (callL L) o st = some r) : ∃ n, hopv (call L n) o st = some r := by
 cases o <;> try exact ⟨0, h⟩
 case call k args =>
  simp only [hopv, Option.bind_eq_some_iff, Option.map_eq_some_iff] at h ⊢
  obtain ⟨vs, h1, q, h2, h3⟩ := h
  obtain ⟨n, hn⟩ := callL_iff.1 h2
  exact ⟨n, vs, h1, q, hn, h3⟩
 case zcall k args =>
  simp only [hopv, Option.bind_eq_some_iff] at h ⊢
  obtain ⟨vs, h1, h⟩ := h
  split at h
  ·rename_i hw
   simp only [Option.bind_eq_some_iff] at h
   obtain ⟨q, h4, h5⟩ := h
   obtain ⟨n, hn⟩ := callL_iff.1 h4
   exact ⟨n, vs, h1, by rw [if_pos hw, hn]; exact h5⟩
  ·simp at h
 case rcall k args =>
  simp only [hopv, Option.bind_eq_some_iff] at h ⊢
  obtain ⟨vs, h1, q, h2, h3⟩ := h
  obtain ⟨n, hn⟩ := callL_iff.1 h2
  exact ⟨n, vs, h1, q, hn, h3⟩
 case lcall k args =>
  simp only [hopv, lendTo, Option.bind_eq_some_iff] at h ⊢
  obtain ⟨vs, h1, ws, h2, h3⟩ := h
  split at h3
  ·rename_i hw
   simp only [Option.bind_eq_some_iff] at h3
   obtain ⟨q, h4, h5⟩ := h3
   obtain ⟨n, hn⟩ := callL_iff.1 h4
   exact ⟨n, vs, h1, ws, h2, by rw [if_pos hw, hn]; exact h5⟩
  ·simp at h3
 case icall tab x args =>
  simp only [hopv, Option.bind_eq_some_iff, Option.map_eq_some_iff] at h ⊢
  obtain ⟨m, h0, vs, h1, q, h2, h3⟩ := h
  obtain ⟨n, hn⟩ := callL_iff.1 h2
  exact ⟨n, m, h0, vs, h1, q, hn, h3⟩
 case callv x args =>
  simp only [hopv] at h ⊢
  split at h
  ·simp only [Option.map_eq_some_iff] at h ⊢
   obtain ⟨q, h2, h3⟩ := h
   obtain ⟨n, hn⟩ := callL_iff.1 h2
   exact ⟨n, q, hn, h3⟩
  ·simp at h
theorem opv_lim {o : POp} {st : St} {r} (h : opv (callL L) o st = some r) : ∃ n, opv (call L n) o st = some r := by
 cases o <;> try exact ⟨0, h⟩
 case h o => exact hopv_lim h
 case pcall k args =>
  simp only [opv] at h ⊢
  split at h
  ·split at h
   ·rename_i hr
    simp only [hr, if_true]
    split at h
    ·rename_i hx
     obtain ⟨n, hn⟩ := callL_iff.1 hx
     exact ⟨n, by rw [hn]; exact h⟩
    ·simp at h
   ·simp at h
  ·simp at h
 case pzcall k args =>
  simp only [opv] at h ⊢
  split at h
  ·split at h
   ·rename_i hr
    simp only [hr, if_true]
    split at h
    ·rename_i hx
     obtain ⟨n, hn⟩ := callL_iff.1 hx
     exact ⟨n, by rw [hn]; exact h⟩
    ·simp at h
   ·simp at h
  ·simp at h
 case pcallx k args own =>
  simp only [opv] at h ⊢
  cases own with
  | none =>
    simp only at h ⊢
    split at h
    ·split at h
     ·rename_i hr
      simp only [hr, if_true]
      split at h
      ·rename_i hx
       obtain ⟨n, hn⟩ := callL_iff.1 hx
       exact ⟨n, by rw [hn]; exact h⟩
      ·simp at h
     ·simp at h
    ·simp at h
  | some i =>
    simp only at h ⊢
    split at h
    ·split at h
     ·rename_i hr
      split at h
      ·rename_i hx
       obtain ⟨n, hn⟩ := callL_iff.1 hx
       exact ⟨n, by rw [if_pos hr, hn]; exact h⟩
      ·simp at h
     ·simp at h
    ·simp at h
 case callv x args =>
  simp only [opv] at h ⊢
  split at h
  ·split at h
   ·rename_i hr
    simp only [hr, if_true]
    split at h
    ·rename_i hx
     obtain ⟨n, hn⟩ := callL_iff.1 hx
     exact ⟨n, by rw [hn]; exact h⟩
    ·simp at h
   ·simp at h
  ·simp at h
theorem step1_lim {j : Nat} {o : PO} {st : St} {r} (h : step1 (callL L) j o st = some r) : ∃ n, step1 (call L n) j o st = some r := by
 simp only [step1] at h ⊢
 split at h
 ·simp only [Option.map_eq_some_iff] at h ⊢
  obtain ⟨a, h1, h2⟩ := h
  obtain ⟨n, hn⟩ := opv_lim h1
  exact ⟨n, a, hn, h2⟩
 ·split at h
  ·split at h
   ·rename_i hb
    simp only [if_pos hb, Option.map_eq_some_iff] at h ⊢
    obtain ⟨a, h1, h2⟩ := h
    obtain ⟨n, hn⟩ := opv_lim h1
    exact ⟨n, a, hn, h2⟩
   ·rename_i hb
    simp only [if_neg hb]; exact ⟨0, h⟩
  ·exact ⟨0, h⟩
  ·simp at h
theorem execFrom_lim : ∀ {os : List PO} {j : Nat} {st : St} {r}, execFrom (callL L) j os st = some r → ∃ n, execFrom (call L n) j os st = some r
 | [], _, _, _, h => ⟨0, h⟩
 | o :: os, j, st, r, h => by
   simp only [execFrom, Option.bind_eq_some_iff] at h ⊢
   obtain ⟨a, h1, h2⟩ := h
   obtain ⟨n, hn⟩ := step1_lim h1
   obtain ⟨m, hm⟩ := execFrom_lim h2
   exact ⟨max n m, a, step1_mono (call_mono (Nat.le_max_left ..)) hn, execFrom_mono (call_mono (Nat.le_max_right ..)) hm⟩
theorem lim_all {l : List Nat} {f : Nat → Nat → Option St} {r : St} (hm : ∀ {n m : Nat} {k : Nat}, n ≤ m → f n k = some r → f m k = some r) (h : ∀ k ∈ l, ∃ n, f n k = some r) : ∃ n, ∀ k ∈ l, f n k = some r := by
 induction l with
 | nil => exact ⟨0, by simp⟩
 | cons x l ih =>
   obtain ⟨n, hn⟩ := h x (by simp)
   obtain ⟨m, hm'⟩ := ih (fun k hk => h k (List.mem_cons_of_mem _ hk))
   refine ⟨max n m, fun k hk => ?_⟩
   rcases List.mem_cons.1 hk with rfl | hk
   ·exact hm (Nat.le_max_left ..) hn
   ·exact hm (Nat.le_max_right ..) (hm' k hk)
theorem stepAt_lim {pos : List PO} {i : Nat} {st : St} {r} (h : stepAt (callL L) pos i st = some r) : ∃ n, stepAt (call L n) pos i st = some r := by
 unfold stepAt at h ⊢
 split at h
 ·exact step1_lim h
 ·cases h
theorem execAny_lim {pos : List PO} {bef : List (List Nat)} {fr : List Bool} : ∀ {n : Nat} {rem : List Nat} {st : St} {r}, execAny (callL L) pos bef fr n rem st = some r → ∃ m, execAny (call L m) pos bef fr n rem st = some r
 | 0, [], st, r, h => ⟨0, by simpa [execAny] using h⟩
 | _ + 1, [], st, r, h => ⟨0, by simpa [execAny] using h⟩
 | 0, _ :: _, _, _, h => by simp [execAny] at h
 | n + 1, i :: rest, st, r, h => by
   have one : ∀ {k : Nat} {rem : List Nat} {s : St}, (stepAt (callL L) pos k st).bind (execAny (callL L) pos bef fr n rem) = some s → ∃ m, (stepAt (call L m) pos k st).bind (execAny (call L m) pos bef fr n rem) = some s := by
    intro k rem s hs
    simp only [Option.bind_eq_some_iff] at hs ⊢
    obtain ⟨a, h1, h2⟩ := hs
    obtain ⟨m1, e1⟩ := stepAt_lim h1
    obtain ⟨m2, e2⟩ := execAny_lim h2
    exact ⟨max m1 m2, a, stepAt_mono (call_mono (Nat.le_max_left ..)) e1, execAny_mono (call_mono (Nat.le_max_right ..)) e2⟩
   cases hf : (i :: rest).find? (fun k => fr.getD k false && readyIn bef (i :: rest) k) with
   | some k =>
     simp only [execAny, hf] at h
     obtain ⟨m, hm⟩ := one h
     exact ⟨m, by simp only [execAny, hf]; exact hm⟩
   | none =>
     simp only [execAny, hf] at h
     obtain ⟨m, hm⟩ := lim_all (l := (i :: rest).filter (readyIn bef (i :: rest))) (f := fun m k => (stepAt (call L m) pos k st).bind (execAny (call L m) pos bef fr n ((i :: rest).erase k))) (r := r)
      (fun hle hs => by
       simp only [Option.bind_eq_some_iff] at hs ⊢
       obtain ⟨a, h1, h2⟩ := hs
       exact ⟨a, stepAt_mono (call_mono hle) h1, execAny_mono (call_mono hle) h2⟩)
      (fun k hk => one (agreeL_mem h _ (List.mem_map.2 ⟨k, hk, rfl⟩)))
     refine ⟨m, ?_⟩
     simp only [execAny, hf]
     refine agreeL_all ?_ ?_
     ·intro e
      rw [List.map_eq_nil_iff] at e
      rw [e] at h
      simp [agreeL] at h
     ·intro x hx
      obtain ⟨k, hk, rfl⟩ := List.mem_map.1 hx
      exact hm k hk
theorem execReg_lim {ops : List PO} {st : St} {r} (h : execReg (callL L) ops st = some r) : ∃ n, execReg (call L n) ops st = some r := by
 unfold execReg at h ⊢
 split at h
 ·rename_i ha
  simp only [ha, if_true]
  unfold execA at h ⊢
  split at h
  ·exact execAny_lim h
  ·cases h
 ·rename_i ha
  simp only [if_neg ha]
  exact execFrom_lim h
theorem bstep_lim {j : Nat} {o : PO} {st : St} {r} (h : bstep (callL L) (outL L) j o st = some r) : ∃ n, bstep (call L n) (outWith (exec L n) L) j o st = some r := by
 unfold bstep at h ⊢
 split at h
 ·split at h
  ·rename_i vs hvs
   split at h
   ·rename_i h1
    obtain ⟨n, hn⟩ := outL_iff.1 h1
    exact ⟨n, by simp only [hvs, hn]; exact h⟩
   ·rename_i h1
    obtain ⟨n, hn⟩ := outL_iff.1 h1
    exact ⟨n, by simp only [hvs, hn]; exact h⟩
   ·simp at h
  ·simp at h
 ·split at h
  ·rename_i hf vs
   split at h
   ·rename_i h1
    obtain ⟨n, hn⟩ := outL_iff.1 h1
    exact ⟨n, by simp only [hf, vs, hn]; exact h⟩
   ·rename_i h1
    obtain ⟨n, hn⟩ := outL_iff.1 h1
    exact ⟨n, by simp only [hf, vs, hn]; exact h⟩
   ·simp at h
  ·simp at h
 ·simp at h
 ·simp at h
 ·simp only [Option.map_eq_some_iff] at h ⊢
  obtain ⟨a, h1, h2⟩ := h
  obtain ⟨n, hn⟩ := step1_lim h1
  exact ⟨n, a, hn, h2⟩
theorem brun_lim : ∀ {os : List PO} {j : Nat} {st : St} {r}, brun (callL L) (outL L) j os st = some r → ∃ n, brun (call L n) (outWith (exec L n) L) j os st = some r
 | [], _, _, _, h => ⟨0, h⟩
 | o :: os, j, st, r, h => by
   simp only [brun] at h ⊢
   split at h
   ·rename_i h1
    obtain ⟨n, hn⟩ := bstep_lim h1
    obtain ⟨m, hm⟩ := brun_lim h
    refine ⟨max n m, ?_⟩
    rw [bstep_mono (call_mono (Nat.le_max_left n m)) (out_mono (Nat.le_max_left n m)) hn]
    exact brun_mono (call_mono (Nat.le_max_right n m)) (out_mono (Nat.le_max_right n m)) hm
   ·rename_i hne
    obtain ⟨n, hn⟩ := bstep_lim h
    refine ⟨n, ?_⟩
    rw [hn]
    split
    ·rename_i h1
     simp only [Option.some.injEq] at h1
     subst h1
     exact absurd h (hne _)
    ·rfl
theorem opt_ext {α : Type} {a b : Option α} (h : ∀ r, a = some r ↔ b = some r) : a = b := by
 cases a with
 | some x => exact ((h x).1 rfl).symm
 | none => cases b with
   | none => rfl
   | some y => exact (h y).2 rfl
theorem evL_step {c : PC} {st : St} {r} : evL L c st = some r ↔ ∃ n, exec L (n + 1) c st = some r := by
 rw [evL_iff]
 exact ⟨fun ⟨n, hn⟩ => ⟨n, exec_mono1 n _ _ _ hn⟩, fun ⟨n, hn⟩ => ⟨n + 1, hn⟩⟩
@[simp] theorem evL_skip {st : St} : evL L .skip st = some (.normal, st) := evL_iff.2 ⟨1, rfl⟩
@[simp] theorem evL_exit {id : Nat} {st : St} : evL L (.exit id) st = some (.exit id, st) := evL_iff.2 ⟨1, rfl⟩
@[simp] theorem evL_ret {st : St} : evL L .ret st = some (.ret, st) := evL_iff.2 ⟨1, rfl⟩
theorem evL_region {ops : List PO} {st : St} : evL L (.region ops) st = (execReg (callL L) ops st).map fun st => (.normal, closed st) := by
 refine opt_ext fun r => ?_
 rw [evL_step]
 simp only [exec, Option.map_eq_some_iff]
 constructor
 ·rintro ⟨n, a, h, e⟩; exact ⟨a, execReg_mono (call_le n) h, e⟩
 ·rintro ⟨a, h, e⟩
  obtain ⟨n, hn⟩ := execReg_lim h
  exact ⟨n, a, hn, e⟩
theorem evL_branch {ops : List PO} {x : PX} {a b : PC} {st : St} : evL L (.branch ops x a b) st =
  (execReg (callL L) ops st).bind fun st => match rd st x with | some (.bool t) => evL L (if t then a else b) (closed st) | _ => none := by
 refine opt_ext fun r => ?_
 rw [evL_step]
 simp only [exec, Option.bind_eq_some_iff]
 constructor
 ·rintro ⟨n, h⟩
  split at h
  ·rename_i s1 h1
   refine ⟨s1, execReg_mono (call_le n) h1, ?_⟩
   split at h
   ·rename_i t h2; simp only [h2]; exact evL_iff.2 ⟨n, h⟩
   ·simp at h
  ·simp at h
 ·rintro ⟨s1, h1, h2⟩
  obtain ⟨n, hn⟩ := execReg_lim h1
  split at h2
  ·rename_i t h3
   obtain ⟨m, hm⟩ := evL_iff.1 h2
   refine ⟨max n m, ?_⟩
   rw [show execReg (callWith (exec L (max n m)) L) ops st = some s1 from execReg_mono (call_mono (Nat.le_max_left ..)) hn]
   simp only [h3]
   exact exec_mono (Nat.le_max_right ..) hm
  ·simp at h2
@[simp] theorem evL_seq {a b : PC} {st : St} : evL L (.seq a b) st = match evL L a st with | some (.normal, st) => evL L b st | some (.after _ _ _, _) => none | r => r := by
 refine opt_ext fun r => ?_
 rw [evL_step]
 simp only [exec]
 constructor
 ·rintro ⟨n, h⟩
  split at h
  ·rename_i s1 h1; rw [evL_iff.2 ⟨n, h1⟩]; exact evL_iff.2 ⟨n, h⟩
  ·simp at h
  ·rename_i hne hna
   rw [evL_iff.2 ⟨n, h⟩]
   split
   ·rename_i h1; cases h1; exact absurd h (hne _)
   ·rename_i h1; cases h1; exact absurd h (hna _ _ _ _)
   ·rfl
 ·intro h
  split at h
  ·rename_i s1 h1
   obtain ⟨n, hn⟩ := evL_iff.1 h1
   obtain ⟨m, hm⟩ := evL_iff.1 h
   refine ⟨max n m, ?_⟩
   rw [exec_mono (Nat.le_max_left ..) hn]
   exact exec_mono (Nat.le_max_right ..) hm
  ·simp at h
  ·rename_i hne hna
   obtain ⟨n, hn⟩ := evL_iff.1 h
   refine ⟨n, ?_⟩
   rw [hn]
   split
   ·rename_i h1; cases h1; exact absurd h (hne _)
   ·rename_i h1; cases h1; exact absurd h (hna _ _ _ _)
   ·rfl
theorem evL_loop {c : PC} {st : St} : evL L (.loop c) st = match evL L c st with | some (.normal, st) => evL L (.loop c) st | some (.after _ _ _, _) => none | r => r := by
 refine opt_ext fun r => ?_
 rw [evL_step]
 simp only [exec]
 constructor
 ·rintro ⟨n, h⟩
  split at h
  ·rename_i s1 h1; rw [evL_iff.2 ⟨n, h1⟩]; exact evL_iff.2 ⟨n, h⟩
  ·simp at h
  ·rename_i hne hna
   rw [evL_iff.2 ⟨n, h⟩]
   split
   ·rename_i h1; cases h1; exact absurd h (hne _)
   ·rename_i h1; cases h1; exact absurd h (hna _ _ _ _)
   ·rfl
 ·intro h
  split at h
  ·rename_i s1 h1
   obtain ⟨n, hn⟩ := evL_iff.1 h1
   obtain ⟨m, hm⟩ := evL_iff.1 h
   refine ⟨max n m, ?_⟩
   rw [exec_mono (Nat.le_max_left ..) hn]
   exact exec_mono (Nat.le_max_right ..) hm
  ·simp at h
  ·rename_i hne hna
   obtain ⟨n, hn⟩ := evL_iff.1 h
   refine ⟨n, ?_⟩
   rw [hn]
   split
   ·rename_i h1; cases h1; exact absurd h (hne _)
   ·rename_i h1; cases h1; exact absurd h (hna _ _ _ _)
   ·rfl
@[simp] theorem evL_block {id : Nat} {c : PC} {st : St} : evL L (.block id c) st = match evL L c st with | some (.exit i, st) => if i = id then some (.normal, st) else some (.exit i, st) | some (.after _ _ _, _) => none | r => r := by
 refine opt_ext fun r => ?_
 rw [evL_step]
 simp only [exec]
 constructor
 ·rintro ⟨n, h⟩
  split at h
  ·rename_i h1; rw [evL_iff.2 ⟨n, h1⟩]; exact h
  ·simp at h
  ·rename_i hne hna
   rw [evL_iff.2 ⟨n, h⟩]
   split
   ·rename_i h1; cases h1; exact absurd h (hne _ _)
   ·rename_i h1; cases h1; exact absurd h (hna _ _ _ _)
   ·rfl
 ·intro h
  split at h
  ·rename_i h1
   obtain ⟨n, hn⟩ := evL_iff.1 h1
   exact ⟨n, by rw [hn]; exact h⟩
  ·simp at h
  ·rename_i hne hna
   obtain ⟨n, hn⟩ := evL_iff.1 h
   refine ⟨n, ?_⟩
   rw [hn]
   split
   ·rename_i h1; cases h1; exact absurd h (hne _ _)
   ·rename_i h1; cases h1; exact absurd h (hna _ _ _ _)
   ·rfl
theorem evL_bregion {ops : List PO} {st : St} : evL L (.bregion ops) st = match brun (callL L) (outL L) 0 ops (begun ops.length st) with
  | some (none, st) => some (.normal, closed st)
  | some (some v, st) => some (.boom v, closed st)
  | none => none := by
 refine opt_ext fun r => ?_
 rw [evL_step]
 simp only [exec]
 constructor
 ·rintro ⟨n, h⟩
  split at h
  ·rename_i h1; rw [brun_mono (call_le n) (out_le n) h1]; exact h
  ·rename_i h1; rw [brun_mono (call_le n) (out_le n) h1]; exact h
  ·simp at h
 ·intro h
  split at h
  ·rename_i h1
   obtain ⟨n, hn⟩ := brun_lim h1
   exact ⟨n, by simp only [call] at hn; rw [hn]; exact h⟩
  ·rename_i h1
   obtain ⟨n, hn⟩ := brun_lim h1
   exact ⟨n, by simp only [call] at hn; rw [hn]; exact h⟩
  ·simp at h
theorem evL_bbranch {ops : List PO} {x : PX} {a b : PC} {st : St} : evL L (.bbranch ops x a b) st = match brun (callL L) (outL L) 0 ops (begun ops.length st) with
  | some (none, st) => (match rd st x with | some (.bool t) => evL L (if t then a else b) (closed st) | _ => none)
  | some (some v, st) => some (.boom v, closed st)
  | none => none := by
 refine opt_ext fun r => ?_
 rw [evL_step]
 simp only [exec]
 constructor
 ·rintro ⟨n, h⟩
  split at h
  ·rename_i h1
   rw [brun_mono (call_le n) (out_le n) h1]
   simp only
   split at h
   ·rename_i t h2
    rw [h2]
    exact evL_iff.2 ⟨n, h⟩
   ·simp at h
  ·rename_i h1; rw [brun_mono (call_le n) (out_le n) h1]; exact h
  ·simp at h
 ·intro h
  split at h
  ·rename_i h1
   obtain ⟨n, hn⟩ := brun_lim h1
   split at h
   ·rename_i t h2
    obtain ⟨m, hm⟩ := evL_iff.1 h
    refine ⟨max n m, ?_⟩
    have := brun_mono (call_mono (Nat.le_max_left n m)) (out_mono (Nat.le_max_left n m)) hn
    simp only [call] at this
    rw [this]
    simp only [h2]
    exact exec_mono (Nat.le_max_right ..) hm
   ·simp at h
  ·rename_i h1
   obtain ⟨n, hn⟩ := brun_lim h1
   exact ⟨n, by simp only [call] at hn; rw [hn]; exact h⟩
  ·simp at h
theorem evL_raise {ops : List PO} {t : Nat} {x : PX} {st : St} : evL L (.raise ops t x) st = match execOps (callL L) ops st with
  | some st => (match rd st x with | some p => some (.boom (.iface t p), closed st) | none => none)
  | none => none := by
 refine opt_ext fun r => ?_
 rw [evL_step]
 simp only [exec]
 constructor
 ·rintro ⟨n, h⟩
  split at h
  ·rename_i st1 h1
   rw [execOps_mono (call_le n) h1]
   simp only
   cases hr : rd st1 x with
   | none => rw [hr] at h; simp at h
   | some p => rw [hr] at h; exact h
  ·simp at h
 ·intro h
  split at h
  ·rename_i st1 h1
   obtain ⟨n, hn⟩ := execFrom_lim h1
   refine ⟨n, ?_⟩
   rw [show execOps (callWith (exec L n) L) ops st = some st1 from hn]
   simp only
   cases hr : rd st1 x with
   | none => rw [hr] at h; simp at h
   | some p => rw [hr] at h; exact h
  ·simp at h
theorem evL_guarded {kd : Nat} {caps : List PX} {c : PC} {st : St} (hn : c.NR = true) : evL L (.guarded kd caps c) st = match rdAll st caps with
  | some cs => (match evL L c st with
    | some (.normal, st) => some (.after kd cs none, st)
    | some (.ret, st) => some (.after kd cs none, st)
    | some (.boom v, st) => some (.after kd cs (some v), st)
    | _ => none)
  | none => none := by
 refine opt_ext fun r => ?_
 rw [evL_step]
 simp only [exec, hn, Bool.true_eq_false, if_false]
 constructor
 ·rintro ⟨n, h⟩
  split at h
  ·rename_i hcs
   simp only [hcs]
   split at h
   ·rename_i h1; rw [evL_iff.2 ⟨n, h1⟩]; exact h
   ·rename_i h1; rw [evL_iff.2 ⟨n, h1⟩]; exact h
   ·rename_i h1; rw [evL_iff.2 ⟨n, h1⟩]; exact h
   ·simp at h
  ·simp at h
 ·intro h
  split at h
  ·rename_i hcs
   simp only [hcs]
   split at h
   ·rename_i h1
    obtain ⟨n, hn⟩ := evL_iff.1 h1
    exact ⟨n, by rw [hn]; exact h⟩
   ·rename_i h1
    obtain ⟨n, hn⟩ := evL_iff.1 h1
    exact ⟨n, by rw [hn]; exact h⟩
   ·rename_i h1
    obtain ⟨n, hn⟩ := evL_iff.1 h1
    exact ⟨n, by rw [hn]; exact h⟩
   ·simp at h
  ·simp at h
theorem runRound_lim {nv : Nat} {a b : PC} {args : List PV} {h : List PObj} {r} (hr : runRound (evL L) nv a b args h = some r) : ∃ n, runRound (exec L n) nv a b args h = some r := by
 unfold runRound at hr ⊢
 split at hr
 ·split at hr
  ·rename_i h1 h2
   obtain ⟨n, hn⟩ := evL_iff.1 h2
   split at hr
   all_goals first
    | (rename_i h3 h4
       obtain ⟨m, hm⟩ := evL_iff.1 h4
       refine ⟨max n m, ?_⟩
       simp only [h1, exec_mono (Nat.le_max_left n m) hn, h3, exec_mono (Nat.le_max_right n m) hm]
       exact hr)
    | simp at hr
  ·simp at hr
 ·simp at hr
theorem runOut_lim {dfr} {f : PFunc} {args : List PV} {h : List PObj} {r} (hr : runOut (evL L) dfr f args h = some r) : ∃ n, runOut (exec L n) dfr f args h = some r := by
 unfold runOut at hr ⊢
 split at hr
 ·exact runRound_lim hr
 ·split at hr
  ·rename_i h1
   obtain ⟨n, hn⟩ := evL_iff.1 h1
   exact ⟨n, by rw [hn]; exact hr⟩
  ·rename_i h1
   obtain ⟨n, hn⟩ := evL_iff.1 h1
   exact ⟨n, by rw [hn]; exact hr⟩
  ·rename_i h1
   obtain ⟨n, hn⟩ := evL_iff.1 h1
   exact ⟨n, by rw [hn]; exact hr⟩
  ·rename_i h1
   obtain ⟨n, hn⟩ := evL_iff.1 h1
   exact ⟨n, by rw [hn]; exact hr⟩
  ·simp at hr
theorem runFn_lim {dfr} {f : PFunc} {args : List PV} {h : List PObj} {r} (hr : runFn (evL L) dfr f args h = some r) : ∃ n, runFn (exec L n) dfr f args h = some r := by
 simp only [runFn] at hr ⊢
 split at hr
 ·simp at hr
 ·rename_i hn
  rw [valOf_some] at hr
  obtain ⟨n, h⟩ := runOut_lim hr
  exact ⟨n, by rw [if_neg hn, valOf_some]; exact h⟩
theorem exec_monoLe {n m : Nat} (h : n ≤ m) : ∀ (c : PC) (st : St) (r), exec L n c st = some r → exec L m c st = some r := by
 intro c st r hr
 induction h with
 | refl => exact hr
 | step _ ih => exact exec_mono1 _ _ _ _ ih
theorem runOwn_lim {f : PFunc} {o : Option Nat} {args : List PV} {h : List PObj} {r} (hr : runOwn (evL L) f o args h = some r) : ∃ n, runOwn (exec L n) f o args h = some r := by
 unfold runOwn at hr ⊢
 split at hr
 ·simp at hr
 ·rename_i hn
  split at hr
  ·rename_i h1
   obtain ⟨n, hn'⟩ := evL_iff.1 h1
   exact ⟨n, by rw [if_neg hn, hn']; exact hr⟩
  ·rename_i h1
   obtain ⟨n, hn'⟩ := evL_iff.1 h1
   exact ⟨n, by rw [if_neg hn, hn']; exact hr⟩
  ·simp at hr
theorem ownWith_lim {f : PFunc} {args : List PV} {h : List PObj} {r} (hr : ownWith (evL L) f args h = some r) : ∃ n, ownWith (exec L n) f args h = some r := by
 unfold ownWith at hr ⊢
 split at hr
 ·split at hr
  ·rename_i hd
   try simp only [hd]
   split at hr
   ·rename_i hl
    simp only [if_pos hl]
    split at hr
    ·rename_i hs
     rw [agree_some] at hr
     obtain ⟨n, hn⟩ := runOwn_lim hr.1
     obtain ⟨m, hm⟩ := runOwn_lim hr.2
     refine ⟨max n m, ?_⟩
     rw [if_pos hs, agree_some]
     exact ⟨runOwn_mono (exec_monoLe (Nat.le_max_left ..)) hn, runOwn_mono (exec_monoLe (Nat.le_max_right ..)) hm⟩
    ·rename_i hs
     obtain ⟨n, hn⟩ := runOwn_lim hr
     exact ⟨n, by rw [if_neg hs]; exact hn⟩
   ·simp at hr
  ·simp at hr
 ·simp at hr
theorem callL_eq {k : Nat} {args : List PV} {hp : List PObj} : callL L k args hp = callWith (evL L) L k args hp := by
 refine opt_ext fun r => ?_
 rw [callL_iff]
 simp only [call, callWith]
 constructor
 ·rintro ⟨n, h⟩
  exact callWith_mono (ex := exec L n) (fun c st r h => evL_iff.2 ⟨n, h⟩) L k args hp r h
 ·intro h
  split at h
  ·simp at h
  ·rename_i f hf
   split at h
   ·rename_i hl
    simp only [if_pos hl]
    split at h
    ·exact ⟨0, h⟩
    split at h
    ·rename_i hs
     rw [agree_some] at h
     obtain ⟨n, hn⟩ := runFn_lim h.1
     obtain ⟨m, hm⟩ := runFn_lim h.2
     refine ⟨max n m, ?_⟩
     rw [if_pos hs, agree_some]
     exact ⟨runFn_mono (exec_monoLe (Nat.le_max_left ..)) hn, runFn_mono (exec_monoLe (Nat.le_max_right ..)) hm⟩
    ·rename_i hs
     obtain ⟨n, hn⟩ := runFn_lim h
     exact ⟨n, by rw [if_neg hs]; exact hn⟩
   ·rename_i hl
    obtain ⟨n, hn⟩ := ownWith_lim h
    exact ⟨n, by rw [if_neg hl]; exact hn⟩
theorem outL_eq {k : Nat} {args : List PV} {hp : List PObj} : outL L k args hp = outWith (evL L) L k args hp := by
 refine opt_ext fun r => ?_
 rw [outL_iff]
 constructor
 ·rintro ⟨n, h⟩
  exact outWith_mono (ex := exec L n) (fun c st r h => evL_iff.2 ⟨n, h⟩) L k args hp r h
 ·intro h
  simp only [outWith] at h ⊢
  split at h
  ·simp at h
  ·rename_i f hf
   split at h
   ·rename_i hl
    simp only [if_pos hl]
    split at h
    ·exact ⟨0, h⟩
    ·exact runOut_lim h
   ·simp at h
/-- What a function gives when its body comes to an end. -/
theorem callL_of {k : Nat} {f : PFunc} {args : List PV} {hp : List PObj} (hf : L k = some f) (hl : args.length = f.params) {r : PV × List PObj}
  (he : runOut (evL L) (dfrOf L) f args hp = some (.val r.1, r.2)) (hs : f.split = false := by rfl) (hpr : f.prim = none := by rfl) (hr : f.code.isRound = false := by rfl) :
  callL L k args hp = some r := by
 rw [callL_eq, callWith, hf]
 simp only [if_pos hl, hs, hpr, Bool.false_and, Bool.false_eq_true, if_false, runFn, hr]
 rw [valOf_some]; exact he
theorem outL_of {k : Nat} {f : PFunc} {args : List PV} {hp : List PObj} (hf : L k = some f) (hl : args.length = f.params) {r : Out × List PObj}
  (he : runOut (evL L) (dfrOf L) f args hp = some r) (hs : f.split = false := by rfl) (hpr : f.prim = none := by rfl) :
  outL L k args hp = some r := by
 rw [outL_eq, outWith, hf]
 simp only [hl, hs, hpr, and_self, if_true]
 exact he
/-- A call that gives a value. -/
theorem outL_call {k : Nat} {f : PFunc} {args : List PV} {hp : List PObj} {r : PV × List PObj} (hf : L k = some f) (h : callL L k args hp = some r) (hs : f.split = false := by rfl) (hl : args.length = f.params := by rfl) : outL L k args hp = some (.val r.1, r.2) := by
 rw [callL_eq, callWith, hf] at h
 rw [outL_eq, outWith, hf]
 simp only [hs, Bool.false_and, Bool.false_eq_true, if_false] at h
 simp only [hs, and_true]
 rw [if_pos hl] at h ⊢
 split at h
 ·rename_i g hg
  simp only [Option.map_eq_some_iff] at h
  obtain ⟨q, h1, rfl⟩ := h
  simp only [hg, h1, Option.map_some]
 ·rename_i hg
  try simp only [hg]
  simp only [runFn] at h
  split at h
  ·simp at h
  ·rwa [valOf_some] at h
theorem ownOf_ownArg (own : Option Nat) : ownOf (ownArg own) = own := by cases own <;> simp [ownOf, ownArg]
theorem ownArgs_len (own : Option Nat) (args : List PV) : (ownArgs own args).length = args.length + 1002 := by simp only [ownArgs, List.length_cons, List.length_append, pad_len]; omega
theorem ownWith_args (ex : PC → St → Option (PExit × St)) (f : PFunc) (own : Option Nat) (args : List PV) (h : List PObj) : ownWith ex f (ownArgs own args) h =
  if args.length = f.params ∧ f.prim = none then
   if f.split && vague (args.headD .dead) then agree (runOwn ex f own (.nils :: args.tail) h) (runOwn ex f own (.void :: args.tail) h)
   else runOwn ex f own args h
  else none := by
 have : (pad ++ ownArg own :: args).drop pad.length = ownArg own :: args := List.drop_left' rfl
 unfold ownWith ownArgs
 simp only
 rw [this]
 simp only [ownOf_ownArg]
/-- What a function gives when its body comes to an end, with the room of an argument. -/
theorem callL_own {k : Nat} {f : PFunc} {own : Option Nat} {args : List PV} {hp : List PObj} (hf : L k = some f) (hl : args.length = f.params) {r : PV × List PObj}
  (he : runOwn (evL L) f own args hp = some r) (hs : f.split = false := by rfl) (hpr : f.prim = none := by rfl) (hp1 : f.params < 1000 := by decide) : callL L k (ownArgs own args) hp = some r := by
 rw [callL_eq, callWith, hf]
 have : ¬ (ownArgs own args).length = f.params := by rw [ownArgs_len]; omega
 simp only [if_neg this, ownWith_args, hl, hpr, and_self, if_true, hs, Bool.false_and, Bool.false_eq_true, if_false]
 exact he
end
end PI
