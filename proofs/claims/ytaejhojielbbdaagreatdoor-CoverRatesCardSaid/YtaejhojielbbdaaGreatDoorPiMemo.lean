/-
  Calls whose results are known: a library in which some functions are tables runs as the library itself does.
-/
import Derived.Test.YtaejhojielbbdaaGreatDoorPiRun
set_option linter.unusedSimpArgs false
set_option linter.unusedVariables false
set_option linter.unusedSectionVars false
namespace PI
abbrev Tabl := Nat → Option (List PV → List PObj → Option (PV × List PObj))
def ovr (L : Nat → Option PFunc) (T : Tabl) : Nat → Option PFunc := fun k =>
 match L k, T k with
 | some f, some g => some { f with prim := some g }
 | o, _ => o
def TabOK (L : Nat → Option PFunc) (T : Tabl) (K : Nat) : Prop :=
 ∀ k f g, L k = some f → T k = some g → f.prim = none ∧ f.split = false ∧ f.code.isRound = false ∧ ∀ args h r, args.length = f.params → g (args.map dem) h = some r → runFn (exec L K) (dfrOf L) f args h = some (dem r.1, r.2)
section
variable {L : Nat → Option PFunc} {T : Tabl} {K : Nat}
theorem ovr_none {k : Nat} (h : L k = none) : ovr L T k = none := by simp [ovr, h]
theorem ovr_same {k : Nat} {f : PFunc} (h : L k = some f) (ht : T k = none) : ovr L T k = some f := by simp [ovr, h, ht]
theorem ovr_tab {k : Nat} {f : PFunc} {g} (h : L k = some f) (ht : T k = some g) : ovr L T k = some { f with prim := some g } := by simp [ovr, h, ht]
theorem ovr_noRound (k : Nat) : noRound (ovr L T) k = noRound L k := by
 unfold noRound
 cases h : L k with
 | none => rw [ovr_none h]
 | some f =>
   cases ht : T k with
   | none => rw [ovr_same h ht]
   | some g => rw [ovr_tab h ht]
theorem ovr_dfr : dfrOf (ovr L T) = dfrOf L := by
 funext k args h
 unfold dfrOf
 cases hk : L k with
 | none => rw [ovr_none hk]
 | some f =>
   cases ht : T k with
   | none => rw [ovr_same hk ht]
   | some g => rw [ovr_tab hk ht]
theorem exec_ovr (hT : TabOK L T K) : ∀ (n : Nat) (c : PC) (st : St) (r), exec (ovr L T) n c st = some r → exec L (n + K) c st = some r := by
 refine exec_sim K ovr_noRound ?_
 intro n he
 have hK : ∀ c st r, exec L K c st = some r → exec L (n + K) c st = some r := fun c st r h => exec_mono (Nat.le_add_left ..) h
 constructor
 ·intro k args h r hr
  cases hk : L k with
  | none => simp [callWith, ovr_none hk] at hr
  | some f =>
    cases ht : T k with
    | none =>
      simp only [callWith, ovr_same hk ht, ovr_dfr] at hr
      simp only [callWith, hk]
      split at hr
      ·rename_i hl
       rw [if_pos hl]
       split at hr
       ·exact hr
       split at hr
       ·rename_i hs
        rw [agree_some] at hr
        rw [if_pos hs, agree_some]
        exact ⟨runFn_mono he hr.1, runFn_mono he hr.2⟩
       ·rename_i hs
        rw [if_neg hs]
        exact runFn_mono he hr
      ·rename_i hl
       rw [if_neg hl]
       exact ownWith_mono he hr
    | some g =>
      obtain ⟨h1, h2, h3, h4⟩ := hT k f g hk ht
      simp only [callWith, ovr_tab hk ht] at hr
      split at hr
      ·rename_i hl
       obtain ⟨q, hq, rfl⟩ := Option.map_eq_some_iff.1 hr
       simp only [callWith, hk, if_pos hl, h1, h2, Bool.false_and, Bool.false_eq_true, if_false]
       exact runFn_mono hK (h4 args h q hl hq)
      ·unfold ownWith at hr
       split at hr
       ·split at hr
        ·simp at hr
        ·cases hr
       ·cases hr
 ·intro k args h r hr
  cases hk : L k with
  | none => simp [outWith, ovr_none hk] at hr
  | some f =>
    cases ht : T k with
    | none =>
      simp only [outWith, ovr_same hk ht, ovr_dfr] at hr
      simp only [outWith, hk]
      split at hr
      ·rename_i hl
       rw [if_pos hl]
       split at hr
       ·exact hr
       ·exact runOut_mono he hr
      ·cases hr
    | some g =>
      obtain ⟨h1, h2, h3, h4⟩ := hT k f g hk ht
      simp only [outWith, ovr_tab hk ht] at hr
      split at hr
      ·rename_i hl
       obtain ⟨q, hq, rfl⟩ := Option.map_eq_some_iff.1 hr
       simp only [outWith, hk, if_pos hl, h1]
       have := runFn_mono hK (h4 args h q hl.1 hq)
       rw [runFn, h3] at this
       simp only [Bool.false_eq_true, if_false] at this
       exact valOf_some.1 this
      ·cases hr
theorem call_ovr (hT : TabOK L T K) {n k : Nat} {f : PFunc} (hk : L k = some f) (ht : T k = none) {args : List PV} {h : List PObj} {r} (hr : call (ovr L T) n k args h = some r) : call L (n + K) k args h = some r := by
 have he := exec_ovr hT n
 simp only [call, callWith, ovr_same hk ht, ovr_dfr] at hr
 simp only [call, callWith, hk]
 split at hr
 ·rename_i hl
  rw [if_pos hl]
  split at hr
  ·exact hr
  split at hr
  ·rename_i hs
   rw [agree_some] at hr
   rw [if_pos hs, agree_some]
   exact ⟨runFn_mono he hr.1, runFn_mono he hr.2⟩
  ·rename_i hs
   rw [if_neg hs]
   exact runFn_mono he hr
 ·rename_i hl
  rw [if_neg hl]
  exact ownWith_mono he hr
/-- A table's rows: arguments and heap, and what a call gives. -/
abbrev Rowt := List PV × List PObj × PV × List PObj
def tabG (es : List Rowt) (args : List PV) (h : List PObj) : Option (PV × List PObj) := (es.find? fun e => beqs e.1 args && decide (e.2.1 = h)).map (·.2.2)
theorem map_dem_dem (vs : List PV) : (vs.map dem).map dem = vs.map dem := by
 induction vs with
 | nil => rfl
 | cons v vs ih => simp only [List.map_cons, ih]; cases v <;> rfl
theorem runFn_dem {ex : PC → St → Option (PExit × St)} {dfr} {f : PFunc} (hr : f.code.isRound = false) {args : List PV} {h : List PObj} : runFn ex dfr f (args.map dem) h = runFn ex dfr f args h := by
 simp only [runFn, hr, Bool.false_eq_true, if_false]
 congr 1
 unfold runOut
 split
 ·rename_i e; rw [e] at hr; cases hr
 ·rw [map_dem_dem]
/-- A table is right if each of its rows is what a call gives. -/
theorem tabG_ok {k : Nat} {f : PFunc} (hk : L k = some f) (h1 : f.prim = none) (h2 : f.split = false) (h3 : f.code.isRound = false) {es : List Rowt}
  (hes : ∀ e ∈ es, dem e.2.2.1 = e.2.2.1 ∧ ∃ n, n ≤ K ∧ call L n k e.1 e.2.1 = some e.2.2) : ∀ args h r, args.length = f.params → tabG es (args.map dem) h = some r → runFn (exec L K) (dfrOf L) f args h = some (dem r.1, r.2) := by
 intro args h r hl hr
 unfold tabG at hr
 obtain ⟨e, he, rfl⟩ := Option.map_eq_some_iff.1 hr
 have hb := List.find?_some he
 have hm := List.mem_of_find?_eq_some he
 simp only [Bool.and_eq_true, decide_eq_true_eq] at hb
 have ha : e.1 = args.map dem := (beqs_iff _ _).1 hb.1
 obtain ⟨hd, n, hn, hc⟩ := hes e hm
 have hl2 : e.1.length = f.params := by rw [ha, List.length_map]; exact hl
 simp only [call, callWith, hk, if_pos hl2, h1, h2, Bool.false_and, Bool.false_eq_true, if_false] at hc
 have := runFn_mono (fun c st r h => exec_mono hn h) hc
 rw [ha, runFn_dem h3, hb.2] at this
 rw [hd]
 exact this
theorem TabOK.nil : TabOK L (fun _ => none) 0 := fun _ _ _ _ h => by cases h
/-- A further table. -/
theorem TabOK.add (hT : TabOK L T K) {n k : Nat} {f : PFunc} (hk : L k = some f) (ht : T k = none) (h1 : f.prim = none) (h2 : f.split = false) (h3 : f.code.isRound = false) {es : List Rowt}
  (hes : ∀ e ∈ es, dem e.2.2.1 = e.2.2.1 ∧ call (ovr L T) n k e.1 e.2.1 = some e.2.2) : TabOK L (fun j => if j = k then some (tabG es) else T j) (n + K) := by
 intro j f' g hj hg
 have hg : (if j = k then some (tabG es) else T j) = some g := hg
 by_cases hjk : j = k
 ·subst hjk
  rw [if_pos rfl] at hg
  cases hg
  rw [hk] at hj
  cases hj
  refine ⟨h1, h2, h3, tabG_ok hk h1 h2 h3 (fun e he => ?_)⟩
  obtain ⟨hd, hc⟩ := hes e he
  exact ⟨hd, n + K, Nat.le_refl _, call_ovr hT hk ht hc⟩
 ·rw [if_neg hjk] at hg
  obtain ⟨a1, a2, a3, a4⟩ := hT j f' g hj hg
  exact ⟨a1, a2, a3, fun args h r hl hr => runFn_mono (fun c st r h => exec_mono (Nat.le_add_left ..) h) (a4 args h r hl hr)⟩
/-- What a call gives, its first part known. -/
theorem row_of {n k : Nat} {args : List PV} {h : List PObj} {r : PV} (hr : (call L n k args h).map (·.1) = some r) : call L n k args h = some (r, ((call L n k args h).getD (.dead, [])).2) := by
 cases hc : call L n k args h with
 | none => rw [hc] at hr; cases hr
 | some q => rw [hc] at hr; cases hr; rfl
end
end PI
