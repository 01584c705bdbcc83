/-
  slices.SortFunc of pairs of ints, taken by its contract.
-/
import Derived.Test.YtaejhojielbbdaaGreatDoorPiFunc
import Derived.Test.YtaejhojielbbdaaGreatDoorPiPrim
import Derived.Shelf.SlSortCmp.NoneTotal
import Derived.Sort.OwnSortedInts
set_option linter.unusedSimpArgs false
set_option linter.unusedVariables false
set_option linter.unusedSectionVars false
namespace PI
open Go Go.RowKit Go.Shelf Go.Proofs Go.Sort
section
variable {N : Nm} {P : Program} {ρ : Ren}
theorem pairsOf_get : ∀ {cs : List PV} {zs : List (Int × Int)}, pairsOf cs = some zs → cs = zs.flatMap ePair
 | [], zs, h => by simp [pairsOf] at h; subst h; rfl
 | [e], zs, h => by unfold pairsOf at h; split at h <;> simp_all
 | e :: e' :: es, zs, h => by
   unfold pairsOf at h
   split at h
   ·rename_i h0; simp at h0
   ·rename_i a b r h0
    simp only [List.cons.injEq] at h0
    obtain ⟨rfl, rfl, rfl⟩ := h0
    simp only [Option.map_eq_some_iff] at h
    obtain ⟨ys, h1, rfl⟩ := h
    rw [pairsOf_get h1]; rfl
   ·simp at h
/-- A pair's two cells. -/
def vPair (x : Int × Int) : List Value := [.int .i64 x.1, .int .i64 x.2]
def vPairs (zs : List (Int × Int)) : List Value := zs.flatMap vPair
theorem vPairs_len : ∀ zs : List (Int × Int), (vPairs zs).length = zs.length * 2
 | [] => rfl
 | z :: zs => by simp only [vPairs, List.flatMap_cons, List.length_append, List.length_cons]; have := vPairs_len zs; unfold vPairs at this; rw [this]; simp [vPair]; omega
theorem ePairs_len : ∀ zs : List (Int × Int), (zs.flatMap ePair).length = zs.length * 2
 | [] => rfl
 | z :: zs => by simp only [List.flatMap_cons, List.length_append, List.length_cons, ePairs_len zs]; simp [ePair]; omega
theorem vPairs_get : ∀ (zs : List (Int × Int)) (t : Nat) (h : t < zs.length * 2), (vPairs zs)[t]? = some ((vPair (zs.toArray[t / 2]!))[t % 2]!)
 | [], t, h => by simp at h
 | z :: zs, 0, h => by simp [vPairs, vPair]
 | z :: zs, 1, h => by simp [vPairs, vPair]
 | z :: zs, t + 2, h => by
   have := vPairs_get zs t (by simp at h; omega)
   simp only [vPairs, List.flatMap_cons, vPair, List.cons_append, List.nil_append, List.getElem?_cons_succ] at this ⊢
   rw [this]
   have e1 : (t + 2) / 2 = t / 2 + 1 := by omega
   have e2 : (t + 2) % 2 = t % 2 := by omega
   rw [e1, e2]
   simp
theorem flatK_pairs (zs : List (Int × Int)) : flatK vPair 2 zs.toArray = (vPairs zs).toArray := by
 apply Array.ext'
 apply List.ext_getElem?
 intro t
 by_cases h : t < zs.length * 2
 ·rw [List.toList_toArray, vPairs_get zs t h]
  have h1 := get_flatK vPair 2 zs.toArray t (by simpa using h)
  rw [getElem!_pos _ t (by simpa using h)] at h1
  rw [Array.getElem?_toList, Array.getElem?_eq_getElem (by simpa using h), h1]
 ·rw [List.getElem?_eq_none (by simp; omega), List.getElem?_eq_none (by simp [vPairs_len]; omega)]
theorem ePairs_get {zs : List (Int × Int)} : ∀ {j : Nat} {x : PV}, (zs.flatMap ePair)[j]? = some x → ∃ z, x = .int .i64 z ∧ (vPairs zs)[j]? = some (.int .i64 z) := by
 induction zs with
 | nil => intro j x h; simp at h
 | cons z zs ih =>
   intro j x h
   match j with
   | 0 => simp [ePair] at h; exact ⟨_, h.symm, by simp [vPairs, vPair]⟩
   | 1 => simp [ePair] at h; exact ⟨_, h.symm, by simp [vPairs, vPair]⟩
   | j + 2 =>
     simp only [List.flatMap_cons, ePair, List.cons_append, List.nil_append, List.getElem?_cons_succ] at h
     obtain ⟨z', h1, h2⟩ := ih h
     exact ⟨z', h1, by simpa [vPairs, vPair] using h2⟩
/-- Behind the block's cells: any list of values is held. -/
theorem holds_vals {w : World} {g : Nat} {cur : Array Value} {e : TypeId} {ss : List Value} (hb : w.heap[g]? = some (.cells cur e (0, 0))) (ht : cur.toList.take ss.length = ss) : Holds (id : Value → Value) w g 0 ss.toArray := by
 intro j hj
 have hj' : j < ss.length := by simpa using hj
 refine ⟨?_, by simp [World.frozen?, hb]⟩
 have h1 : (cur.toList.take ss.length)[j]? = ss[j]? := by rw [ht]
 rw [List.getElem?_take_of_lt hj'] at h1
 simp only [World.cell?, hb, Nat.zero_add]
 simp only [Option.isSome_none, Bool.false_eq_true, if_false]
 rw [← Array.getElem?_toList, h1]
 simp [hj']
theorem heap_vals {w : World} {g n : Nat} {os : Array Obj} {cur : Array Value} {e : TypeId} {fr : Nat × Nat} (d : Array Value) (hb : w.heap[g]? = some (.cells cur e fr)) :
  (grow (putRow id (Sort.ahead w n) g 0 d) os).heap[g]? = some (.cells (putCells id 0 d cur) e fr) := by
 have hg : g < w.heap.size := (Array.getElem?_eq_some_iff.1 hb).1
 rw [heap_grow_old _ _ (by simpa using hg)]
 simp [putRow, mapBlock, Sort.ahead, Array.getElem?_modify, hb, onCells]
theorem grownBy_vals {w : World} {g n : Nat} {os : Array Obj} (d : Array Value) : w.grownBy (grow (putRow id (Sort.ahead w n) g 0 d) os) (some g) := by
 refine ⟨rfl, rfl, rfl, by simp, fun k hk hne => ?_⟩
 rw [heap_grow_old _ _ (by simpa using hk)]
 have : g ≠ k := fun e => hne (by rw [e])
 simp [putRow, mapBlock, Sort.ahead, Array.getElem?_modify, this]
/-- The order of pairs, as the comparison says it. -/
def pairCmp (x y : Int × Int) : Int := if x.1 < y.1 then -1 else if y.1 < x.1 then 1 else if x.2 < y.2 then -1 else if y.2 < x.2 then 1 else 0
theorem pairCmp_lt (x y : Int × Int) : ltOf pairCmp x y = decide (x.1 < y.1 ∨ x.1 = y.1 ∧ x.2 < y.2) := by
 unfold ltOf pairCmp
 by_cases h1 : x.1 < y.1
 ·simp [h1]
 ·by_cases h2 : y.1 < x.1
  ·simp [h1, h2]; omega
  ·by_cases h3 : x.2 < y.2
   ·simp [h1, h2, h3]; omega
   ·by_cases h4 : y.2 < x.2
    ·simp [h1, h2, h3, h4]
    ·simp [h1, h2, h3, h4]
theorem pairCmp_swo : SWO (ltOf pairCmp) where
 irrefl x := by rw [pairCmp_lt]; simp
 trans x y z h1 h2 := by rw [pairCmp_lt] at *; simp at *; omega
 ntrans x y z h1 h2 := by rw [pairCmp_lt] at *; simp at *; omega
theorem pairCmp_le : (fun x y : Int × Int => !(ltOf pairCmp) y x) = pairLe := by
 funext x y
 rw [pairCmp_lt, pairLe, ← decide_not]
 refine decide_eq_decide.2 ?_
 omega
theorem sortp_ok {k kc : Nat} (hk : N.fn k = ρ.f 6) (L : SlLaysF0.n6 P ρ) (aE : ∀ w, (isAgg (ρ.t 24)).run P w = .ok true w) (zE : ∀ w, (Go.sizeOf (ρ.t 24)).run P w = .ok 2 w)
  (eg : ∀ args w, (callFunc (N.fn kc) args).run P w = .ok (.enter (N.fn kc) args) w)
  (hcl : ∀ (x y : Int × Int) (W : World), Calls P (N.fn kc) #[.agg (vPair x).toArray, .agg (vPair y).toArray] W fun e w' => e = .returned (.int .i64 (pairCmp x y)) ∧ ∃ q os', w' = grow (W.drewN q) os') : PrimOK N P k (pSortPairs kc) := by
 intro args r h h' hg w G vals hbt hsz hvr
 unfold pSortPairs at hg
 split at hg
 ·rename_i n len kf
  split at hg
  ·rename_i cs hcs
   split at hg
   ·rename_i hlen
    obtain ⟨rfl, hlen⟩ := hlen
    simp only [Option.map_eq_some_iff, Prod.mk.injEq] at hg
    obtain ⟨zs, hzs, rfl, rfl⟩ := hg
    rw [isort_pair]
    have hz := pairsOf_get hzs
    have hzl : zs.length = len := by
     have := congrArg List.length hz
     rw [ePairs_len] at this
     simp at this; omega
    obtain ⟨l⟩ := vals
    match l, hsz with
    | [v, v2], _ =>
    have hv := hvr 0 v _ rfl rfl
    have hv2 := hvr 1 v2 _ rfl rfl
    obtain rfl : v2 = .func (.func (N.fn kf)) #[] #[] := by
     cases hv2 with
     | func _ fs cs _ _ _ e1 e2 =>
       have : fs = #[] := Array.eq_empty_of_size_eq_zero (by simpa using e1)
       subst this
       have : cs = #[] := Array.eq_empty_of_size_eq_zero (by simpa using e2)
       subst this
       rfl
    cases hv with
    | rowp _ _ _ _ b cap hb hcap hsh =>
    rcases hbt.heap.1 n _ hcs with hx | ⟨b', k1, k2, f, cv, T, a1, a2, a3⟩
    ·simp at hx
    have : b' = b := by rw [hb] at k1; simpa using k1.symm
    subst this
    have hblt : b' < w.heap.size := (Array.getElem?_eq_some_iff.1 a1).1
    have htake : cv.toList.take (vPairs zs).length = vPairs zs := by
     rw [vPairs_len]
     apply List.ext_getElem?
     intro j
     by_cases hj : j < zs.length * 2
     ·rw [List.getElem?_take_of_lt hj, Array.getElem?_toList]
      have hjc : j < cv.size := by omega
      have h1 : cs[j]? = (zs.flatMap ePair)[j]? := by
       have := congrArg (fun l : List PV => l[j]?) hz
       rw [List.getElem?_take_of_lt (by omega)] at this
       exact this
      obtain ⟨x, hx⟩ : ∃ x, (zs.flatMap ePair)[j]? = some x := ⟨_, List.getElem?_eq_getElem (by rw [ePairs_len]; exact hj)⟩
      obtain ⟨z, rfl, h2⟩ := ePairs_get hx
      have h4 := (a3 j cv[j] _ (by simp [hjc]) (h1.trans hx)).1
      have h3 : cv[j]? = some cv[j] := by simp [hjc]
      generalize hc : cv[j] = c4 at h4 h3
      cases h4
      rw [h3, h2]
     ·rw [List.getElem?_take_eq_none (by omega), List.getElem?_eq_none (by rw [vPairs_len]; omega)]
    have hH : HoldsK vPair 2 w b' 0 zs.toArray := by
     unfold HoldsK
     rw [flatK_pairs]
     exact holds_vals a1 htake
    have hc := AnyQ.slices_SortFunc_total L 2 aE zE vPair (fun _ => rfl) (fun x v hv => by simp [vPair] at hv; rcases hv with rfl | rfl <;> rfl) pairCmp pairCmp_swo (N.fn kf) #[] b' 0 cap zs.toArray w eg
     (fun m os dk hs x y => hcl x y _) hH hblt (by simpa [hzl] using hlen.2) (fun x y h1 h2 => by
      rw [pairCmp_lt] at h1 h2
      simp at h1 h2
      exact Prod.ext (by omega) (by omega))
    rw [pairCmp_le] at hc
    simp only [List.size_toArray, hzl] at hc
    refine (hk ▸ hc).mono ?_
    rintro e w' ⟨rfl, m, os, rfl⟩
    obtain ⟨ts, hts⟩ : ∃ ts, ts = zs.mergeSort pairLe := ⟨_, rfl⟩
    have htl : ts.length = len := by rw [← hzl, hts]; exact List.length_mergeSort _
    rw [← hts]
    show ∃ v G', _ ∧ _ ∧ _ ∧ _
    have hgb := grownBy_vals (w := w) (g := b') (n := m) (os := os) (vPairs ts).toArray
    have hhp := heap_vals (n := m) (os := os) (vPairs ts).toArray a1
    have hwe : sortWorldK vPair 2 w b' 0 m ts.toArray os = grow (putRow id (Sort.ahead w m) b' 0 (vPairs ts).toArray) os := by
     unfold sortWorldK putRowK
     rw [flatK_pairs]
    rw [hwe]
    generalize hw' : grow (putRow id (Sort.ahead w m) b' 0 (vPairs ts).toArray) os = w' at hgb hhp
    obtain ⟨g1, g2, g3, g4, g5⟩ := hgb
    have hoth : ∀ x, x < w.heap.size → x ≠ b' → w'.heap[x]? = w.heap[x]? := fun x hx hne => g5 x hx (by simpa using hne)
    have hsize : (putCells id 0 (vPairs ts).toArray cv).size = cv.size := by simp [putCells]
    have hshape : ShapeLe w w' := .one b' (fun x hx hne => hoth x hx hne) (fun s hs => by
     simp only [World.shape?, a1] at hs
     simp only [World.shape?, hhp, hsize]
     exact hs) (fun s hs => by rw [loopOf_cells a1] at hs; simp at hs)
    have hext : Ext w G w' G := by
     refine ⟨g1, g2, g3, g4, ?_, ?_, fun _ _ h => .inl h, fun _ h => .inr h, fun _ _ h => h, hshape, rfl⟩
     ·intro x hx ho
      exact hoth x hx (by rintro rfl; rw [k2] at ho; simp at ho)
     ·intro x o hf
      refine ⟨hf, ?_⟩
      have hne : x ≠ b' := by rintro rfl; exact f o hf
      simp only [World.cell?, hoth x (hbt.fixlt x o hf) hne]
    have hkeep : Keep (fun k => k = .hobj n) w G w' G := by
     refine ⟨?_, fun _ _ h => h⟩
     intro x kx hx hne
     refine ⟨hx, hoth x (hbt.owlt x kx hx) ?_, fun _ h => h⟩
     rintro rfl
     rw [k2] at hx
     simp only [Option.some.injEq] at hx
     exact hne hx.symm
    refine ⟨_, G, rfl, .tuple _ _ rfl (by intro i c p hc hp; simp at hc), hext, ?_⟩
    refine ⟨hbt.only, fun x o hf => Nat.lt_of_lt_of_le (hbt.fixlt x o hf) g4, fun x kx hx => Nat.lt_of_lt_of_le (hbt.owlt x kx hx) g4, ?_, fun m x hx => by simpa using hbt.hdom m x hx⟩
    refine hbt.heap.keepBut hext hkeep (by intro n' k' hne; simp [hne]) ?_
    intro hnlt
    refine .inr ⟨b', hb, k2, f, _, T, hhp, ?_, ?_⟩
    ·rw [hsize]
     have h0 := hlen.1
     simp only [List.length_append, List.length_drop, ePairs_len]
     omega
    ·intro j c x hc hx
     have hcj : j < cv.size := by rw [← hsize]; exact (Array.getElem?_eq_some_iff.1 hc).1
     by_cases hj : j < len * 2
     ·have hjt : j < (vPairs ts).length := by rw [vPairs_len]; omega
      rw [List.getElem?_append_left (by rw [ePairs_len]; omega)] at hx
      obtain ⟨z, rfl, h2⟩ := ePairs_get hx
      have : c = .int .i64 z := by
       simp [putCells, hcj, hjt] at hc
       rw [List.getElem?_eq_getElem hjt] at h2
       simp only [Option.some.injEq] at h2
       rw [← hc, h2]
      subst this
      exact ⟨.int _ _, rfl, True.intro⟩
     ·have hjt : (ts.flatMap ePair).length ≤ j := by rw [ePairs_len]; omega
      rw [List.getElem?_append_right hjt] at hx
      simp only [List.getElem?_drop, ePairs_len] at hx
      have hx : cs[len * 2 + (j - ts.length * 2)]? = some x := hx
      rw [show len * 2 + (j - ts.length * 2) = j by omega] at hx
      have hc' : cv[j]? = some c := by
       simp [putCells, hcj, show ¬ j < (vPairs ts).length by rw [vPairs_len]; omega] at hc
       simp [hcj, hc]
      exact (a3 j c x hc' hx).keep hext hkeep (by simp)
   ·simp at hg
  ·simp at hg
 ·rename_i o q
  simp only [Option.some.injEq, Prod.mk.injEq] at hg
  obtain ⟨rfl, rfl⟩ := hg
  obtain ⟨l⟩ := vals
  match l, hsz with
  | [v, v2], _ =>
  have hv := hvr 0 v _ rfl rfl
  obtain ⟨p, cap, rfl⟩ : ∃ p cap, v = .slice p 0 cap := by
   cases hv with
   | nils => exact ⟨none, 0, rfl⟩
   | void _ a cap => exact ⟨some a, cap, rfl⟩
   | list _ b off len cap sz _ cv hlen hcap _ _ _ _ => simp at hlen; subst hlen; exact ⟨_, cap, rfl⟩
  refine (hk ▸ AnyF.slices_SortFunc_none L p cap v2 w).mono ?_
  rintro e w' ⟨rfl, rfl⟩
  exact ⟨_, G, rfl, .tuple _ _ rfl (by intro i c p hc hp; simp at hc), Ext.refl _ _, hbt⟩
 ·simp at hg
end
end PI
