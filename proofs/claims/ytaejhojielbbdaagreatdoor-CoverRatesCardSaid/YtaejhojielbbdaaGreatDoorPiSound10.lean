/-
  The pure interpreter is right, 10: guards, and operations in the text's order.
-/
import Derived.Test.YtaejhojielbbdaaGreatDoorPiSound9
import Derived.Orders
import Derived.LoopN
set_option linter.unusedSimpArgs false
set_option linter.unusedVariables false
set_option linter.unusedSectionVars false
namespace PI
open Go Go.RowKit
section
variable {E : Env} {N : Nm} {w : World} {G : GS} {st : St} {a : Act} {vs : List Tmp} {P : Program} {ops : Array Oper}
variable {o : Oper} {j : Nat} {Q : Exit → Act → World → Prop} {st1 : St}
abbrev Next1 (N : Nm) (w : World) (G : GS) (a : Act) (st1 : St) (vs : List Tmp) (ops : List Oper) (K : Act → World → Prop) : Prop :=
 ∀ a' w' G', FI N w' G' st1 a' vs (lmap vs ops) → Ext w G w' G' → a'.tmps.size = a.tmps.size → K a' w'
theorem step1_sound {L : Nat → Option PFunc} (hF : FnsOK N P L) (hE : EnvOk E N) (hP : E.P = P) (nm : Names vs (lmap vs ops.toList)) (ho : ops[j]? = some o) (hf : FI N w G st a vs (lmap vs ops.toList)) {cf : CallF} (hcf : CallOK N P cf)
  (hcL : ∀ k args h r, cf k args h = some r → ∃ f, L k = some f) {po : PO} (hc : cOper E vs ops.toList o = some po) (hs : step1 cf j po st = some st1) {K : Act → World → Prop} (hk : Next1 N w G a st1 vs ops.toList K) : wpOp P ops Q j K a w := by
 have ho' : ops.toList[j]? = some o := by simpa using ho
 simp only [cOper, Option.map_eq_some_iff] at hc
 obtain ⟨g, hg, rfl⟩ := hc
 generalize hpd : (cOp E vs ops.toList o).getD stuckOp = p at hs
 unfold wpOp
 simp only [ho]
 have run : ∀ {st1}, (opv cf p st).map (fun r => put r.2 j (cDst vs o.dst) r.1) = some st1 → Next1 N w G a st1 vs ops.toList K → o.wp P a w K Q := by
  intro st1 h hk
  simp only [Option.map_eq_some_iff] at h
  obtain ⟨⟨u, st2⟩, h1, rfl⟩ := h
  cases hcp : cOp E vs ops.toList o with
  | none =>
    rw [hcp] at hpd
    simp only [Option.getD_none] at hpd
    subst hpd
    simp [stuckOp, opv, rd, raw, cp] at h1
  | some p' =>
    rw [hcp] at hpd
    simp only [Option.getD_some] at hpd
    subst hpd
    exact op_sound hF hE hP nm ho' hf hcf hcL hcp h1 hk
 unfold cGuard at hg
 split at hg
 ·rename_i hgn
  simp at hg; subst hg
  simp only [step1] at hs
  rw [if_pos (by simp [Region.wanted, hgn])]
  exact .inl (run hs hk)
 ·rename_i jj want hgs
  split at hg
  ·rename_i og hog
   split at hg
   ·rename_i t ht
    simp only [Option.map_eq_some_iff] at hg
    obtain ⟨px, hpx, rfl⟩ := hg
    simp only [step1] at hs
    split at hs
    ·rename_i b hb
     have hev := (rd_sound hE hpx hf hb).1
     have hev' : a.eval (.tmp t) = .bool b := by generalize a.eval (.tmp t) = z at hev; cases hev; rfl
     have hy : yielded ops a.tmps jj = some b := by
      have h1 : ops[jj]? = some og := by simpa using hog
      have h2 : a.tmps[t]? = some (.bool b) := by
       simp only [Act.eval, Array.getD_eq_getD_getElem?] at hev'
       cases h : a.tmps[t]? with
       | none => rw [h] at hev'; simp [undef] at hev'
       | some z => rw [h] at hev'; simpa using hev'
      simp [yielded, h1, ht, h2]
     have hw : Region.wanted o (yielded ops a.tmps) = (b == want) := by
      simp [Region.wanted, hgs, hy]
     rw [hw]
     split at hs
     ·rename_i hbw
      rw [if_pos (by simpa using hbw)]
      exact .inl (run hs hk)
     ·rename_i hbw
      rw [if_neg (by simpa using hbw)]
      simp at hs; subst hs
      exact hk _ _ G (hf.put nm (cDst_ok ho') (.tuple #[] [] rfl (by intro i c p h _; simp at h))) (Ext.refl _ _) (put_size _ _ _)
    ·rename_i hb
     have hev := (rd_sound hE hpx hf hb).1
     have hev' : a.eval (.tmp t) = .tuple #[] := by
      generalize a.eval (.tmp t) = z at hev
      cases hev with
      | tuple cs _ hlen _ => simp at hlen; rw [hlen]
     have hy : yielded ops a.tmps jj = none := by
      have h1 : ops[jj]? = some og := by simpa using hog
      simp only [Act.eval, Array.getD_eq_getD_getElem?] at hev'
      cases h : a.tmps[t]? with
      | none => simp [yielded, h1, ht, h]
      | some z => rw [h] at hev'; simp at hev'; subst hev'; simp [yielded, h1, ht, h]
     have hw : Region.wanted o (yielded ops a.tmps) = false := by
      simp [Region.wanted, hgs, hy]
     rw [hw]
     simp at hs; subst hs
     exact hk _ _ G (hf.put nm (cDst_ok ho') (.tuple #[] [] rfl (by intro i c p h _; simp at h))) (Ext.refl _ _) (put_size _ _ _)
    ·simp at hs
   ·simp at hg
  ·simp at hg
theorem Next1.trans {w' : World} {G' : GS} {a' : Act} {K : Act → World → Prop} {vs' : List Tmp} {ops' : List Oper} (h : Next1 N w G a st1 vs' ops' K) (e : Ext w G w' G') (hs : a'.tmps.size = a.tmps.size) : Next1 N w' G' a' st1 vs' ops' K :=
 fun a2 w2 G2 h1 h2 h3 => h a2 w2 G2 h1 (e.trans h2) (h3.trans hs)
theorem cOpers_get : ∀ {os : List Oper} {pos : List PO} {ops : List Oper}, cOpers E vs ops os = some pos → os.length = pos.length ∧ ∀ (i : Nat) (o : Oper), os[i]? = some o → ∃ p, pos[i]? = some p ∧ cOper E vs ops o = some p
 | [], pos, ops, h => by simp [cOpers] at h; subst h; simp
 | o :: os, pos, ops, h => by
   simp only [cOpers, Option.bind_eq_some_iff, Option.map_eq_some_iff] at h
   obtain ⟨p, hp, ps, hps, rfl⟩ := h
   obtain ⟨h1, h2⟩ := cOpers_get hps
   refine ⟨by simp [h1], ?_⟩
   intro i o' ho'
   cases i with
   | zero => simp at ho'; subst ho'; exact ⟨p, rfl, hp⟩
   | succ i => simpa using h2 i o' (by simpa using ho')
/-- The operations of the list l, in its order. -/
noncomputable def execL (cf : CallF) (pos : List PO) : List Nat → St → Option St
 | [], st => some st
 | i :: l, st =>
   match pos[i]? with
   | some p => (step1 cf i p st).bind (execL cf pos l)
   | none => none
theorem execFrom_L {cf : CallF} {all : List PO} : ∀ {pos : List PO} {j : Nat} {st : St}, all.drop j = pos → execFrom cf j pos st = execL cf all (List.range' j pos.length) st
 | [], j, st, _ => by simp [execFrom, execL]
 | p :: pos, j, st, h => by
   have h1 : all[j]? = some p := by
    have := congrArg List.head? h; simpa [List.head?_drop] using this
   have h2 : all.drop (j + 1) = pos := by have := congrArg List.tail h; simpa [List.tail_drop] using this
   simp only [execFrom, List.length_cons, List.range'_succ, execL, h1]
   congr 1
   funext st'
   exact execFrom_L h2
theorem opsL_sound {L : Nat → Option PFunc} (hF : FnsOK N P L) (hE : EnvOk E N) (hP : E.P = P) (nm : Names vs (lmap vs ops.toList)) {cf : CallF} (hcf : CallOK N P cf)
  (hcL : ∀ k args h r, cf k args h = some r → ∃ f, L k = some f) {pos : List PO} (hc : cOpers E vs ops.toList ops.toList = some pos) :
  ∀ {l : List Nat} {st st' : St} {w : World} {G : GS} {a : Act}, execL cf pos l st = some st' → FI N w G st a vs (lmap vs ops.toList) → Next1 N w G a st' vs ops.toList (Q .normal) → wpOps P ops Q l a w
 | [], st, st', w, G, a, h, hf, hk => by
   simp [execL] at h; subst h
   exact hk _ _ G hf (Ext.refl _ _) rfl
 | i :: l, st, st', w, G, a, h, hf, hk => by
   simp only [execL] at h
   split at h
   ·rename_i p hp
    simp only [Option.bind_eq_some_iff] at h
    obtain ⟨st1, h1, h2⟩ := h
    have hlt : i < ops.toList.length := by rw [(cOpers_get hc).1]; exact (List.getElem?_eq_some_iff.1 hp).1
    obtain ⟨p', hp', hcp⟩ := (cOpers_get hc).2 i ops.toList[i] (List.getElem?_eq_getElem hlt)
    have : p' = p := by rw [hp] at hp'; simpa using hp'.symm
    subst this
    rw [wpOps_cons]
    refine step1_sound hF hE hP nm (o := ops.toList[i]) (by simp) hf hcf hcL hcp h1 ?_
    intro a' w' G' hf' he hs
    exact opsL_sound hF hE hP nm hcf hcL hc h2 hf' (hk.trans he hs)
   ·simp at h
end
/-! ### A region's names -/
theorem idxIn_of {t : Tmp} {vs : List Tmp} {i : Nat} (h : vs[i]? = some t) : ∀ n, (idxIn t vs n).isSome = true := by
 induction vs generalizing i with
 | nil => simp at h
 | cons x xs ih =>
   intro n
   simp only [idxIn]
   split
   ·rfl
   ·rename_i hne
    cases i with
    | zero => simp at h; exact absurd h hne
    | succ i => exact ih (by simpa using h) (n + 1)
theorem once_spec {vs : List Tmp} : ∀ {ops : List Oper}, onceIn vs ops = true → ∀ (j j' : Nat) (o o' : Oper) (t : Tmp), ops[j]? = some o → ops[j']? = some o' → o.dst = some t → o'.dst = some t → (idxIn t vs 0).isSome = false → j = j'
 | [], _, j, _, _, _, _, h, _, _, _, _ => by simp at h
 | x :: xs, h, j, j', o, o', t, h1, h2, h3, h4, h5 => by
   simp only [onceIn, Bool.and_eq_true] at h
   obtain ⟨ha, hb⟩ := h
   have key : ∀ (m : Nat) (p : Oper), xs[m]? = some p → x.dst = some t → p.dst ≠ some t := by
    intro m p hm hx
    rw [hx] at ha
    simp only [h5, Bool.false_or, List.all_eq_true, bne_iff_ne, ne_eq] at ha
    exact ha p (List.mem_of_getElem? hm)
   cases j with
   | zero =>
     simp at h1; subst h1
     cases j' with
     | zero => rfl
     | succ m => exact absurd h4 (key m o' (by simpa using h2) h3)
   | succ m =>
     cases j' with
     | zero => simp at h2; subst h2; exact absurd h3 (key m o (by simpa using h1) h4)
     | succ m' => rw [once_spec hb m m' o o' t (by simpa using h1) (by simpa using h2) h3 h4 h5]
theorem names_ok {vs : List Tmp} {ops : List Oper} (hn : vs.Nodup) (ho : onceIn vs ops = true) : Names vs (lmap vs ops) := by
 have sp : ∀ j t, lmap vs ops j = some t → ∃ o, ops[j]? = some o ∧ o.dst = some t ∧ (idxIn t vs 0).isSome = false := by
  intro j t h
  unfold lmap at h
  split at h
  ·rename_i o ho
   split at h
   ·rename_i t' ht'
    split at h
    ·simp at h
    ·rename_i hi
     simp at h; subst h
     exact ⟨o, ho, ht', by simpa using hi⟩
   ·simp at h
  ·simp at h
 refine ⟨?_, ?_, ?_⟩
 ·intro i i' t h1 h2
  obtain ⟨hi, e1⟩ := List.getElem?_eq_some_iff.1 h1
  obtain ⟨hi', e2⟩ := List.getElem?_eq_some_iff.1 h2
  exact (List.getElem_inj hn).1 (e1.trans e2.symm)
 ·intro j t i h1 h2
  obtain ⟨o, _, _, h3⟩ := sp j t h1
  have := idxIn_of h2 0
  rw [h3] at this; simp at this
 ·intro j j' t h1 h2
  obtain ⟨o, a1, a2, a3⟩ := sp j t h1
  obtain ⟨o', b1, b2, _⟩ := sp j' t h2
  exact once_spec ho j j' o o' t a1 b1 a2 b2 a3
end PI
