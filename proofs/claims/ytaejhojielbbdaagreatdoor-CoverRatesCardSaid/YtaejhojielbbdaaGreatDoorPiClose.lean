/-
  A law's statement out of its run in the pure interpreter.
-/
import Derived.Test.YtaejhojielbbdaaGreatDoorPiLaw2
import Derived.Carry
import Derived.ChangeSame
import Derived.OpenShut
set_option linter.unusedSimpArgs false
set_option linter.unusedVariables false
set_option linter.unusedSectionVars false
namespace PI
open Go Go.RowKit Go.WideShapes Go.ChangeShapes
section
variable {H : Type} {enc : TypeId × Value → H} {P : Program} {W : World} {base' : Nat} {N : Nm} {D : Nat → TyD} {tm : Nat → TypeId}
/-- Values of a list of types. -/
def ShAll (D : Nat → TyD) : List Nat → List PV → Prop
 | [], [] => True
 | i :: is, p :: ps => Sh D i p ∧ ShAll D is ps
 | _, _ => False
theorem args_sh {n : Nat} {r : Reach} {spare : Nat → Bool} {held : Bool} {base : Nat} (hM : ∀ i, i < n → matchT P D tm n i = true) :
  ∀ {idxs : List Nat} {vs : List Value} {ds : List (DataW H)} {p : List MemPlace}, (∀ i ∈ idxs, i < n) →
  (∀ (j : Nat) (t : TypeId) (v : Value), (idxs.map tm)[j]? = some t → vs[j]? = some v → Value.okWide P W r base' t v) →
  DataW.TrodAll enc P W base spare held (idxs.map tm) vs ds p → (DataW.weightsEach P (idxs.map tm) ds).all (· ≤ reachBytes) = true →
  ∃ pvs : List PV, vs.length = pvs.length ∧ ds.length = idxs.length ∧ wts pvs ≤ dbulkAll ds ∧ ShAll D idxs pvs ∧
    ∀ (j : Nat) (v : Value) (p : PV), vs[j]? = some v → pvs[j]? = some p → VR N W (fix0 W) (fun _ => none) v p
 | [], vs, ds, p, _, _, h, _ => by
   obtain ⟨rfl, rfl, rfl⟩ := trodAll_nil h
   exact ⟨[], rfl, rfl, by simp [wts], trivial, by simp⟩
 | i :: is, vs, ds, p, hi, hv, h, hwg => by
   obtain ⟨v, vs', d, ds', p1, q1, rfl, rfl, rfl, h1, h2⟩ := trodAll_cons h
   simp only [List.map_cons, DataW.weightsEach, List.all_append, Bool.and_eq_true] at hwg
   obtain ⟨pvs, a1, a2, a3, a4, a5⟩ := args_sh hM (fun j hj => hi j (List.mem_cons_of_mem _ hj)) (fun j t u ht hu => hv (j + 1) t u (by simpa using ht) (by simpa using hu)) h2 hwg.2
   obtain ⟨pv, b1, b2⟩ := arg_sh (N := N) hM (hi i (List.mem_cons_self ..)) (hv 0 (tm i) v rfl rfl) h1 hwg.1
   refine ⟨pv :: pvs, by simp [a1], by simp [a2], by simp only [wts, dbulkAll]; omega, ⟨b1.1, a4⟩, ?_⟩
   intro j u q hu hq
   cases j with
   | zero => simp at hu hq; subst hu hq; exact b2
   | succ j => exact a5 j u q (by simpa using hu) (by simpa using hq)
theorem args_stay {W' : World} (hl : laidOutB P = true) (hb : Below W.heap.size W W') {sp : Nat → Bool} :
  ∀ {ts : List TypeId} {vs : List Value} {ds : List (DataW H)} {p : List MemPlace}, (∀ t ∈ ts, P.readableRec t = true ∧ t < P.types.size) →
  (∀ x ∈ p, x.block < W.heap.size) → (∀ x ∈ p, sp x.block = true) →
  DataW.TrodAll enc P W 0 (fun _ => true) true ts vs ds p → DataW.TrodAll enc P W' 0 sp true ts vs ds p
 | [], vs, ds, p, _, _, _, h => by
   obtain ⟨rfl, rfl, rfl⟩ := trodAll_nil h
   exact rfl
 | t :: ts, vs, ds, p, ht, hlt, hsp, h => by
   obtain ⟨v, vs', d, ds', p1, q1, rfl, rfl, rfl, h1, h2⟩ := trodAll_cons h
   have := ht t (List.mem_cons_self ..)
   exact trodAll_cons_mk (WideElems.Trod_stays hl this.1 this.2 h1 (fun x hx => hb.same (hlt x (List.mem_append_left _ hx))) (fun x hx => hsp x (List.mem_append_left _ hx)))
    (args_stay hl hb (fun t' h' => ht t' (List.mem_cons_of_mem _ h')) (fun x hx => hlt x (List.mem_append_right _ hx)) (fun x hx => hsp x (List.mem_append_right _ hx)) h2)
theorem weights_left {ts us : List TypeId} {ds : List (DataW H)} : ∀ (_ : ts.length = ds.length), (DataW.weightsEach P (ts ++ us) ds).all (· ≤ reachBytes) = true → (DataW.weightsEach P ts ds).all (· ≤ reachBytes) = true := by
 induction ts generalizing ds with
 | nil => intro _ _; simp [DataW.weightsEach]
 | cons t ts ih =>
   intro hl h
   cases ds with
   | nil => simp [DataW.weightsEach]
   | cons d ds =>
     simp only [List.cons_append, DataW.weightsEach, List.all_append, Bool.and_eq_true] at h ⊢
     exact ⟨h.1, ih (by simpa using hl) h.2⟩
theorem trodAll_len {base : Nat} {spare : Nat → Bool} {held : Bool} : ∀ {ts : List TypeId} {vs : List Value} {ds : List (DataW H)} {p : List MemPlace}, DataW.TrodAll enc P W base spare held ts vs ds p → ts.length = ds.length
 | [], vs, ds, p, h => by obtain ⟨rfl, rfl, rfl⟩ := trodAll_nil h; rfl
 | t :: ts, vs, ds, p, h => by
   obtain ⟨v, vs', d, ds', p1, q1, rfl, rfl, rfl, h1, h2⟩ := trodAll_cons h
   simp [trodAll_len h2]
theorem pi_contract {E : Env} {L : Nat → Option PFunc} (hE : EnvOk E N) (hP : E.P = P) (hmix : P.follows .mixedOrders = true) (hL : ∀ k pf, L k = some pf → FnS E N k pf) (hT : ∀ t ∈ N.tabs, W.cell? ⟨t.1, t.2.1, none⟩ = some t.2.2) (hTr : ∀ r ∈ N.rows, W.shape? r.1 = some r.2)
  {n k : Nat} (hM : ∀ i, i < n → matchT P D tm n i = true) (hlaid : laidOutB P = true) {f : Func} {s : ChangeSpec} {idxs : List Nat} {tb : TypeId}
  (hpar : f.params.toList = idxs.map tm) (hidx : ∀ i ∈ idxs, i < n ∧ P.readableRec (tm i) = true ∧ tm i < P.types.size) (hvars : s.vars = [])
  (htb : P.underlying tb = some .bool) (hres : f.resultTypes = #[tb]) (hspec : ∀ ds : List (DataW H), ds.length = idxs.length → s.fn H ds = { results := [.lit (.bool true)], args := ds })
  {apart fresh handsOn again : Bool} {args : Array Value} {ds gs : List (DataW H)} {before : List MemPlace}
  (hval : ∀ (j : Nat) (t : TypeId) (v : Value), f.params[j]? = some t → args[j]? = some v → Value.okWide P W .any base' t v)
  (hW : DataW.Whole enc P f.params.toList s.vars apart W args.toList ds gs before)
  (hwg : (DataW.weightsEach P (f.params.toList ++ s.plain.varTypes P) (ds ++ gs)).all (· ≤ reachBytes) = true)
  (hlaw : ∀ pvs : List PV, ShAll D idxs pvs → wts pvs ≤ dbulkAll (ds ++ gs) → ∃ m h', call L m k pvs [] = some (.bool true, h')) :
  Calls P (N.fn k) args W fun e W' => ∃ v, e = .returned v ∧ s.post enc P f apart fresh handsOn again W args v W' := by
 have hW' := hW
 rw [hvars] at hW
 obtain ⟨p, q, hA, hV, rfl, hfz, hnd⟩ := hW
 obtain ⟨rfl, rfl⟩ := trodVars_none hV
 rw [hpar] at hA
 obtain ⟨pvs, a1, a2, a3, a4, a5⟩ := args_sh (N := N) (n := n) (base' := base') hM (fun i hi => (hidx i hi).1) (fun j t v ht hv => hval j t v (by rw [← hpar] at ht; simpa using ht) (by simpa using hv)) hA (by rw [List.append_nil, hpar] at hwg; exact weights_left (by simpa using trodAll_len hA) hwg)
 obtain ⟨m, h', hrun⟩ := hlaw pvs a4 (by simpa using a3)
 refine (law_walk (W := W) hE hP hmix hL hT hTr hrun (by simpa using a1) (fun i v p hv hp => a5 i v p (by simpa using hv) hp)).mono ?_
 rintro e W' ⟨rfl, hb⟩
 refine ⟨_, rfl, ?_⟩
 have hblk : ∀ x ∈ p, x.block < W.heap.size := fun x hx => hW'.lt x (by simpa using hx)
 have hts : ∀ t ∈ idxs.map tm, P.readableRec t = true ∧ t < P.types.size := by
  intro t ht
  obtain ⟨i, hi, rfl⟩ := List.mem_map.1 ht
  exact (hidx i hi).2
 have hst : ∀ sp : Nat → Bool, (∀ x ∈ p, sp x.block = true) → DataW.TrodAll enc P W' 0 sp true f.params.toList args.toList ds p := fun sp hsp => by
  rw [hpar]; exact args_stay hlaid hb hts hblk hsp hA
 have hr : s.fn H (ds ++ []) = { results := [.lit (.bool true)], args := ds } := by rw [List.append_nil]; exact hspec ds a2
 have hres1 : ∀ (b : Nat) (sp : Nat → Bool) (hd : Bool), DataW.TrodAll enc P W' b sp hd f.resultTypes.toList ((Value.bool true).resultList f.resultTypes.size) (s.fn H (ds ++ [])).results [] := by
  intro b sp hd
  rw [hres, hr]
  exact trodAll_cons_mk (shut_bool htb _) trodAll_mk0
 have hv0 : ∀ sp : Nat → Bool, DataW.TrodVars enc P W' sp s.vars (s.fn H (ds ++ [])).vars [] := by
  intro sp; rw [hvars, hr]; rfl
 have ha0 : ∀ sp : Nat → Bool, (∀ x ∈ p, sp x.block = true) → DataW.TrodAll enc P W' 0 sp true f.params.toList args.toList (s.fn H (ds ++ [])).args p := by
  intro sp hsp; rw [hr]; exact hst sp hsp
 refine ⟨ds, [], p ++ [], [], p, [], hW', hres1 _ _ _, ha0 _ (fun x hx => by simpa using hblk x hx), hv0 _, hb.frame _, fun _ => ?_⟩
 refine ⟨ok_one hres rfl (okWide_bool_mk htb _), _, _, ([] ++ p) ++ [], ⟨[] ++ p, [], trodAll_append (ha0 _ (fun _ _ => rfl)) (hres1 _ _ _), hv0 _, rfl, ?_, ?_⟩, ?_⟩
 ·intro b off hp
  have hlt := hblk _ (by simpa using hp)
  rw [hb.frozen (p := ⟨b, off, none⟩) hlt]
  exact hfz b off (by simpa using hp)
 ·intro ha
  simpa using hnd ha
 ·intro x hx _
  simpa using hx
end
section
variable {D : Nat → TyD} {i : Nat} {p : PV}
theorem Sh.inv_bool (hd : D i = .bool) (h : Sh D i p) : ∃ b, p = .bool b := by
 cases h with
 | bool _ b _ => exact ⟨b, rfl⟩
 | int _ k n h => rw [hd] at h; cases h
 | str _ s h => rw [hd] at h; cases h
 | slice _ e b es h => rw [hd] at h; cases h
 | struct _ fs ps h => rw [hd] at h; cases h
theorem Sh.inv_int {k : IntKind} (hd : D i = .int k) (h : Sh D i p) : ∃ n, p = .int k n ∧ k.min ≤ n ∧ n ≤ k.max := by
 cases h with
 | bool _ b h => rw [hd] at h; cases h
 | int _ k n h h1 h2 => rw [hd] at h; cases h; exact ⟨n, rfl, h1, h2⟩
 | str _ s h => rw [hd] at h; cases h
 | slice _ e b es h => rw [hd] at h; cases h
 | struct _ fs ps h => rw [hd] at h; cases h
theorem Sh.inv_str (hd : D i = .str) (h : Sh D i p) : ∃ s, p = .str s ∧ s.length ≤ 9223372036854775807 := by
 cases h with
 | bool _ b h => rw [hd] at h; cases h
 | int _ k n h => rw [hd] at h; cases h
 | str _ s _ hl => exact ⟨s, rfl, hl⟩
 | slice _ e b es h => rw [hd] at h; cases h
 | struct _ fs ps h => rw [hd] at h; cases h
theorem Sh.inv_slice {e b : Nat} (hd : D i = .slice e b) (h : Sh D i p) : ∃ es, p = .list false es ∧ es.length ≤ 9223372036854775807 ∧ es.length * b ≤ 140737488351232 ∧ ∀ x ∈ es, Sh D e x := by
 cases h with
 | bool _ b h => rw [hd] at h; cases h
 | int _ k n h => rw [hd] at h; cases h
 | str _ s h => rw [hd] at h; cases h
 | slice _ e b es h hl hb hs => rw [hd] at h; cases h; exact ⟨es, rfl, hl, hb, hs⟩
 | struct _ fs ps h => rw [hd] at h; cases h
theorem Sh.inv_struct {fs : List Nat} (hd : D i = .struct fs) (h : Sh D i p) : ∃ ps : List PV, p = .agg (ps.flatMap PV.cells) ∧ ShAll D fs ps := by
 cases h with
 | bool _ b h => rw [hd] at h; cases h
 | int _ k n h => rw [hd] at h; cases h
 | str _ s h => rw [hd] at h; cases h
 | slice _ e b es h => rw [hd] at h; cases h
 | struct _ fs' ps h hl hs =>
   rw [hd] at h; cases h
   refine ⟨ps, rfl, ?_⟩
   clear hd
   induction fs generalizing ps with
   | nil =>
     cases ps with
     | nil => trivial
     | cons p ps => simp at hl
   | cons f fs ih =>
     cases ps with
     | nil => simp at hl
     | cons p ps => exact ⟨hs 0 f p rfl rfl, ih ps (by simpa using hl) (fun j f' p' hf hp => hs (j + 1) f' p' (by simpa using hf) (by simpa using hp))⟩
end
end PI
