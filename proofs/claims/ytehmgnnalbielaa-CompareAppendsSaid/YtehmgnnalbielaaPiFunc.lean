/-
  The pure interpreter is right: functions.
-/
import Derived.Test.YtehmgnnalbielaaPiCode
set_option linter.unusedSimpArgs false
set_option linter.unusedVariables false
namespace PI
open Go Go.RowKit

def cRes (P : Program) (vs : List Tmp) : ResultVar → Option PRes
  | .tmp t => (idxIn t vs 0).map .var
  | .cell t ty => (idxIn t vs 0).bind fun i => (sizeT P ty).map fun n => .cell i n (isAggT P ty)

def cRess (P : Program) (vs : List Tmp) : List ResultVar → Option (List PRes)
  | [] => some []
  | r :: rs => (cRes P vs r).bind fun p => (cRess P vs rs).map (p :: ·)

/-- What is chosen, function by function. -/
structure Opts where
  hs : List Tmp := []
  hf : List FuncId := []
  hv : List Tmp := []

def Env.opt (E : Env) (o : Opts) : Env := { E with hs := o.hs, hf := o.hf, hv := o.hv }

/-- A function of the library stands in the program. -/
def FnC (E : Env) (N : Nm) (k : Nat) (pf : PFunc) (fn : Func) (vs : List Tmp) : Prop :=
  E.P.funcs[N.fn k]? = some fn ∧ fn.name ≠ "runtime.NumGoroutine" ∧ vs.Nodup ∧ (∀ t ∈ vs, t < fn.ntmps) ∧ vs.length = pf.nv ∧ pf.params ≤ pf.nv ∧ (∀ i, i < pf.params → vs[i]? = some i) ∧
    (∃ o : Opts, (fn.body.bind fun c => compC (E.opt o) fn.ntmps vs c) = some pf.code) ∧ cRess E.P vs fn.results.toList = some pf.results

section
variable {E : Env} {N : Nm} {P : Program}

def resM (a : Act) (r : ResultVar) : Sem Value :=
  match r with
  | .tmp t => pure (a.tmps.getD t undef)
  | .cell t ty => do loadVar ty (← asAddr (a.tmps.getD t undef))

theorem resultOf_sound {vs : List Tmp} {nt : Nat} {w : World} {G : GS} {st : St} {a : Act} (hb : BI N w G st a vs nt) {r : ResultVar} {p : PRes} {u : PV} (hc : cRes P vs r = some p) (hr : resultOf st p = some u) :
    ∃ v, (resM a r).run P w = .ok v w ∧ VR N w G.fix G.heap v u := by
  cases r with
  | tmp t =>
    simp only [cRes, Option.map_eq_some_iff] at hc
    obtain ⟨i, hi, rfl⟩ := hc
    obtain ⟨_, hi2⟩ := idxIn_some hi
    simp only [resultOf, Option.bind_eq_some_iff] at hr
    obtain ⟨x, hx, hr⟩ := hr
    have hs := hb.fi.var i t x (by simpa using hi2) hx
    refine ⟨a.tmps.getD t undef, rfl, ?_⟩
    split at hr
    · simp at hr; subst hr
      exact hs.1
    · exact (hs.read hr).1
  | cell t ty =>
    simp only [cRes, Option.bind_eq_some_iff, Option.map_eq_some_iff] at hc
    obtain ⟨i, hi, n, hn, rfl⟩ := hc
    obtain ⟨_, hi2⟩ := idxIn_some hi
    simp only [resultOf] at hr
    split at hr
    · rename_i g cs hv
      have hs := hb.fi.var i t _ (by simpa using hi2) hv
      obtain ⟨b, i', _, hval, _, _, _, cv, T, hh, hl, hcr⟩ := hs
      obtain ⟨hR, hcell⟩ := cells_of_box hh hl hcr
      have hn0 : n ≠ 0 := by obtain ⟨_, _, _, _, h, _⟩ := info_underlying hn; exact h
      obtain ⟨k1, k2, k3⟩ := loadFrom_sound hR hr hn0 (sizeT_one hn)
      have hval' : a.tmps.getD t undef = .pointer (some ⟨b, 0, none⟩) := hval
      have := run_loadVarT (w := w) hn b 0 cv.toList (by simpa using k1) (fun j v hv => by rw [Nat.zero_add]; exact hcell j v hv)
      refine ⟨_, ?_, k2⟩
      simp only [resM, hval', asAddr, Sem.run_bind, Sem.run_pure, Result.andThen_ok, this]
      simp
    · simp at hr

theorem results_sound {vs : List Tmp} {nt : Nat} {w : World} {G : GS} {st : St} {a : Act} (hb : BI N w G st a vs nt) : ∀ {rs : List ResultVar} {ps : List PRes} {us : List PV}, cRess P vs rs = some ps → resultsOf st ps = some us →
    ∃ vals : List Value, (rs.mapM (resM a)).run P w = .ok vals w ∧ vals.length = us.length ∧
      ∀ (i : Nat) (v : Value) (u : PV), vals[i]? = some v → us[i]? = some u → VR N w G.fix G.heap v u
  | [], ps, us, hc, hr => by
    simp [cRess] at hc; subst hc
    simp [resultsOf] at hr; subst hr
    exact ⟨[], by simp, rfl, by simp⟩
  | r :: rs, ps, us, hc, hr => by
    simp only [cRess, Option.bind_eq_some_iff, Option.map_eq_some_iff] at hc
    obtain ⟨p, hp, ps', hps, rfl⟩ := hc
    simp only [resultsOf, Option.bind_eq_some_iff, Option.map_eq_some_iff] at hr
    obtain ⟨u, hu, us', hus, rfl⟩ := hr
    obtain ⟨v, h1, h2⟩ := resultOf_sound hb hp hu
    obtain ⟨vals, h3, h4, h5⟩ := results_sound hb hps hus
    refine ⟨v :: vals, ?_, by simp [h4], ?_⟩
    · rw [List.mapM_cons]
      simp only [Sem.run_bind, h1, Result.andThen_ok, h3, Sem.run_pure]
    · intro i x y hx hy
      cases i with
      | zero => simp at hx hy; subst hx hy; exact h2
      | succ i => exact h5 i x y (by simpa using hx) (by simpa using hy)

theorem call_sound {L : Nat → Option PFunc} (hE : EnvOk E N) (hP : E.P = P) (hmix : P.follows .mixedOrders = true) (hL : ∀ k pf, L k = some pf → ∃ fn vs, FnC E N k pf fn vs) :
    ∀ n, CallOK N P (callWith (exec L n) L) := by
  have hF : FnsOK N P L := by
    intro k pf hk
    obtain ⟨fn, vs, h1, h2, _, _, _, _, _, ⟨_, h3⟩, _⟩ := hL k pf hk
    refine ⟨fn, by rw [← hP]; exact h1, h2, ?_⟩
    cases hb : fn.body with
    | none => rw [hb] at h3; simp at h3
    | some c => rfl
  have hcL : ∀ n k args h r, callWith (exec L n) L k args h = some r → ∃ f, L k = some f := by
    intro n k args h r hr
    unfold callWith at hr
    split at hr
    · simp at hr
    · rename_i f hf; exact ⟨f, hf⟩
  intro n
  induction n using Nat.strongRecOn with
  | _ n ihn =>
    intro k args r h0 h' hc w G vals hbt hsz hvr
    unfold callWith at hc
    split at hc
    · simp at hc
    · rename_i pf hpf
      split at hc
      · rename_i hal
        suffices H : ∀ args : List PV, args.length = pf.params → runFn (exec L n) pf args h0 = some (r, h') → vals.size = args.length →
            (∀ (i : Nat) (v : Value) (p : PV), vals[i]? = some v → args[i]? = some p → VR N w G.fix G.heap v p) →
            Calls P (N.fn k) vals w fun e w' => ∃ v G', e = .returned v ∧ VR N w' G'.fix G'.heap v r ∧ Ext w G w' G' ∧ Between N w' G' h' by
          split at hc
          · rename_i hsp
            simp only [Bool.and_eq_true] at hsp
            have hag : runFn (exec L n) pf (.nils :: args.tail) h0 = some (r, h') ∧ runFn (exec L n) pf (.void :: args.tail) h0 = some (r, h') := by
              unfold agree at hc
              split at hc
              · rename_i he; exact ⟨hc, he ▸ hc⟩
              · simp at hc
            cases args with
            | nil => simp [vague] at hsp
            | cons p ps =>
              have hv0 : ∃ v, vals[0]? = some v := by
                have h0 : 0 < vals.size := by rw [hsz]; simp
                exact ⟨vals[0], by simp [h0]⟩
              obtain ⟨v0, hv0⟩ := hv0
              have hrest : ∀ q, VR N w G.fix G.heap v0 q → ∀ (i : Nat) (v : Value) (p' : PV), vals[i]? = some v → (q :: ps)[i]? = some p' → VR N w G.fix G.heap v p' := by
                intro q hq i v p' h1 h2
                cases i with
                | zero => rw [hv0] at h1; simp at h1 h2; subst h1 h2; exact hq
                | succ i => exact hvr (i + 1) v p' h1 (by simpa using h2)
              rcases (hvr 0 v0 p hv0 rfl).vague hsp.2 with h | h
              · exact H _ (by simpa using hal) hag.1 (by simpa using hsz) (hrest _ h)
              · exact H _ (by simpa using hal) hag.2 (by simpa using hsz) (hrest _ h)
          · exact H args hal hc hsz hvr
        clear hc hal hsz hvr args
        intro args hal hc hsz hvr
        unfold runFn at hc
        obtain ⟨fn, vs, f1, f2, f3, f4, f5, f6, f7, ⟨opt, f8⟩, f9⟩ := hL k pf hpf
        simp only [Option.bind_eq_some_iff] at f8
        obtain ⟨c, hbody, hcomp⟩ := f8
        rw [hP] at f1
        let st0 : St := { vars := args.map dem ++ List.replicate (pf.nv - pf.params) .dead, locs := [], gen := 0, heap := h0 }
        let a0 : Act := { tmps := vals ++ Array.replicate (fn.ntmps - vals.size) undef, defers := [] }
        have hb0 : BI N w G st0 a0 vs fn.ntmps := by
          refine ⟨⟨?_, ?_, (by intro j t u hj; simp at hj), ?_, (by intro j t hj; simp at hj), rfl, (by intro g b h; rw [hbt.only.box] at h; simp at h), hbt.owlt, hbt.fixlt, hbt.heap, hbt.hdom⟩, ?_⟩
          · simp only [st0, List.length_append, List.length_map, List.length_replicate, f5, hal]; omega
          · intro i t u h1 h2
            by_cases hi : i < pf.params
            · have ht : t = i := by rw [f7 i hi] at h1; simpa using h1.symm
              subst ht
              have hia : t < args.length := by rw [hal]; exact hi
              simp only [st0] at h2
              rw [List.getElem?_append_left (by simpa using hia)] at h2
              simp only [List.getElem?_map, List.getElem?_eq_getElem hia, Option.map_some, Option.some.injEq] at h2
              subst h2
              have hiv : t < vals.size := by rw [hsz]; exact hia
              have hev : a0.eval (.tmp t) = vals[t] := by
                simp only [a0, Act.eval, Array.getD_eq_getD_getElem?]
                rw [Array.getElem?_append_left hiv]
                simp [hiv]
              rw [hev]
              have hv := hvr t vals[t] args[t] (by simp [hiv]) (List.getElem?_eq_getElem hia)
              exact SR.of_pure hv.dem hv.cp_dem
            · simp only [st0] at h2
              rw [List.getElem?_append_right (by rw [List.length_map, hal]; omega)] at h2
              rw [List.getElem?_replicate] at h2
              split at h2
              · simp at h2; subst h2; trivial
              · simp at h2
          · intro i t h1
            have h3 := f4 t (List.mem_of_getElem? h1)
            simp only [a0, Array.size_append, Array.size_replicate]
            exact Nat.lt_of_lt_of_le h3 ((Nat.sub_le_iff_le_add').1 (Nat.le_refl _))
          · simp only [a0, Array.size_append, Array.size_replicate]
            exact (Nat.sub_le_iff_le_add').1 (Nat.le_refl _)
        have finish : ∀ (x : PExit) (st' : St), exec L n pf.code st0 = some (x, st') → (x = .normal ∨ x = .ret) → (resultV st' pf.results).map (·, st'.heap) = some (r, h') →
            Calls P (N.fn k) vals w fun e w' => ∃ v G', e = .returned v ∧ VR N w' G'.fix G'.heap v r ∧ Ext w G w' G' ∧ Between N w' G' h' := by
          intro x st' hx hxn hres
          refine calls_of_wp f1 hbody ?_
          refine code_sound (E := E.opt opt) hF ⟨hE.fn⟩ hP hmix f3 hcL n (fun m hm => ihn m hm) (compC_cmp hcomp) hx hb0 ?_
          intro a' w' G' hb' he
          simp only [Option.map_eq_some_iff, Prod.mk.injEq, resultV] at hres
          obtain ⟨r', ⟨us, hus, hr'⟩, rfl, hheq⟩ := hres
          obtain ⟨rvals, h1, h2, h3⟩ := results_sound (P := P) hb' (by rw [← hP]; exact f9) hus
          have hrun : ∃ v, (results fn a'.tmps).run P w' = .ok v w' ∧ VR N w' G'.fix G'.heap v r' := by
            have hm : results fn a'.tmps = (do let vs ← fn.results.mapM (resM a'); pure (if h : vs.size = 1 then vs[0] else .tuple vs)) := rfl
            rw [hm, Array.mapM_eq_mapM_toList]
            simp only [Sem.run_bind, Sem.run_map]
            rw [h1]
            simp only [Result.andThen_ok, Sem.run_pure]
            have hr'' := hr'
            subst hr''
            cases us with
            | nil =>
              have : rvals = [] := by simpa using h2
              subst this
              exact ⟨.tuple #[], by simp, .tuple #[] _ rfl (by simp)⟩
            | cons u us2 =>
              cases us2 with
              | nil =>
                obtain ⟨v, rfl⟩ := List.length_eq_one_iff.1 (by simpa using h2)
                exact ⟨v, by simp, h3 0 v u rfl rfl⟩
              | cons u2 us3 =>
                refine ⟨.tuple rvals.toArray, ?_, .tuple _ _ ?_ ?_⟩
                · have : ¬ rvals.toArray.size = 1 := by
                    intro e
                    have e' : rvals.length = 1 := e
                    rw [h2] at e'
                    simp at e'
                  rw [dif_neg this]
                · simpa using h2
                · intro i v p hv hp
                  simp only [List.getElem?_map, Option.map_eq_some_iff] at hp
                  obtain ⟨q, hq, rfl⟩ := hp
                  exact (h3 i v q (by simpa using hv) hq).dem
          obtain ⟨v, hv1, hv2⟩ := hrun
          let G2 : GS := { fix := G'.fix, heap := G'.heap, box := fun _ => none, ow := onlyH G'.ow }
          have hext : Ext w G w' G2 := by
            refine ⟨he.os, he.tape, he.output, he.size, he.same, he.fix, he.newfix, ?_, he.heap⟩
            intro b hb
            refine he.own b ?_
            intro e
            exact hb (by simp [G2, onlyH, e])
          have hbt2 : Between N w' G2 h' := by
            refine ⟨⟨fun b k h => (onlyH_some h).2, fun _ => rfl⟩, hb'.fi.fixlt, fun b k h => hb'.fi.owlt b k (onlyH_some h).1, ?_, ?_⟩
            · rw [← hheq]; exact hb'.fi.heap.sub rfl rfl (fun b k hk h => onlyH_of h hk)
            · rw [← hheq]; exact hb'.fi.hdom
          rcases hxn with rfl | rfl
          · exact ⟨hb'.fi.defers, v, hv1, v, G2, rfl, hv2, hext, hbt2⟩
          · exact ⟨hb'.fi.defers, v, hv1, v, G2, rfl, hv2, hext, hbt2⟩
        split at hc
        · rename_i st' hx
          exact finish .normal st' hx (.inl rfl) hc
        · rename_i st' hx
          exact finish .ret st' hx (.inr rfl) hc
        · simp at hc
      · simp at hc

end
end PI
