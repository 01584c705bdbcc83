/-
  slices.Sort of ints, taken by its contract.
-/
import Derived.Test.YtaejhojielbbdaaGreatDoorPiFunc
import Derived.Test.YtaejhojielbbdaaGreatDoorPiPrim
import Derived.Shelf.Sort.Plain
import Derived.Shelf.Slices.In.SortNone
import Derived.Sort.OwnSortedInts
set_option linter.unusedSimpArgs false
set_option linter.unusedVariables false
set_option linter.unusedSectionVars false
namespace PI
open Go Go.RowKit Go.Shelf Go.Proofs Go.Sort
section
variable {N : Nm} {P : Program} {ρ : Ren}
theorem intsOf_get : ∀ {cs : List PV} {zs : List Int}, intsOf cs = some zs → cs = zs.map (PV.int .i64)
 | [], zs, h => by simp [intsOf] at h; subst h; rfl
 | e :: es, zs, h => by
   unfold intsOf at h
   split at h
   ·rename_i h0; simp at h0
   ·rename_i n r h0
    simp only [List.cons.injEq] at h0
    obtain ⟨rfl, rfl⟩ := h0
    simp only [Option.map_eq_some_iff] at h
    obtain ⟨ys, h1, rfl⟩ := h
    rw [intsOf_get h1]; rfl
   ·simp at h
theorem tuple0 {w : World} {fix : Nat → Nat → Prop} {hp : Nat → Option Nat} : VR N w fix hp (.tuple #[]) (.tuple []) := .tuple _ _ rfl (by intro i c p hc hp; simp at hc)
theorem sort_ok {k : Nat} (hk : N.fn k = ρ.f 189) (L : Lays.n189 P ρ) : PrimOK N P k pSortInts := by
 intro args r h h' hg w G vals hbt hsz hvr
 unfold pSortInts at hg
 split at hg
 ·rename_i n len
  split at hg
  ·rename_i cs hcs
   split at hg
   ·rename_i hlen
    simp only [Option.map_eq_some_iff, Prod.mk.injEq] at hg
    obtain ⟨zs, hzs, rfl, rfl⟩ := hg
    rw [isort_int]
    have hz := intsOf_get hzs
    have hzl : zs.length = len := by
     have := congrArg List.length hz
     simp at this; omega
    obtain ⟨l⟩ := vals
    match l, hsz with
    | [v], _ =>
    have hv := hvr 0 v _ rfl rfl
    cases hv with
    | rowp _ _ _ _ b cap hb hcap hsh =>
    rcases hbt.heap.1 n _ hcs with hx | ⟨b', k1, k2, f, cv, T, a1, a2, a3⟩
    ·simp at hx
    have : b' = b := by rw [hb] at k1; simpa using k1.symm
    subst this
    have hblt : b' < w.heap.size := (Array.getElem?_eq_some_iff.1 a1).1
    have htake : cv.toList.take zs.length = zs.map (Value.int .i64) := by
     apply List.ext_getElem?
     intro j
     by_cases hj : j < zs.length
     ·rw [List.getElem?_take_of_lt hj, Array.getElem?_toList]
      have h1 : cs[j]? = some (.int .i64 zs[j]) := by
       have := congrArg (fun l => l[j]?) hz
       simp only [List.getElem?_map, List.getElem?_eq_getElem hj, Option.map_some] at this
       rw [List.getElem?_take_of_lt (by omega)] at this
       exact this
      have hjc : j < cv.size := by omega
      have h2 := (a3 j cv[j] _ (by simp [hjc]) h1).1
      generalize cv[j]'hjc = c at h2
      have h3 : cv[j]? = some cv[j] := by simp [hjc]
      have h4 := (a3 j cv[j] _ (by simp [hjc]) h1).1
      generalize hc : cv[j] = c4 at h4 h3
      cases h4
      rw [h3]
      simp [hj]
     ·rw [List.getElem?_take_eq_none (by omega), List.getElem?_eq_none (by simp; omega)]
    have hH := holds_of_blockI a1 htake
    have hc := Any.slices_Sort_int L b' 0 cap zs w hH hblt (by rw [hzl]; exact hlen.2)
    rw [hzl] at hc
    refine (hk ▸ hc).mono ?_
    rintro e w' ⟨rfl, m, os, rfl⟩
    let ts := zs.mergeSort fun x y => decide (x ≤ y)
    have htl : ts.length = len := by rw [← hzl]; exact List.length_mergeSort _
    have hgb := grownBy_sortedI (w := w) (g := b') (n := m) (os := os) ts.toArray
    have hhp := heap_sortedI (n := m) (os := os) ts.toArray a1
    generalize hw' : grow (putRow (Value.int .i64) (Sort.ahead w m) b' 0 ts.toArray) os = w' at hgb hhp
    obtain ⟨g1, g2, g3, g4, g5⟩ := hgb
    have hoth : ∀ x, x < w.heap.size → x ≠ b' → w'.heap[x]? = w.heap[x]? := fun x hx hne => g5 x hx (by simpa using hne)
    have hsize : (putCells (Value.int .i64) 0 ts.toArray cv).size = cv.size := by simp [putCells]
    have hshape : ShapeLe w w' := .one b' (fun x hx hne => hoth x hx hne) (fun s hs => by
     simp only [World.shape?, a1] at hs
     simp only [World.shape?, hhp, hsize]
     exact hs) (fun s hs => by rw [loopOf_cells a1] at hs; simp at hs)
    have hext : Ext w G w' G := by
     refine ⟨g1, g2, g3, g4, ?_, ?_, fun _ _ h => .inl h, fun _ h => .inr h, fun _ _ h => h, hshape, rfl⟩
     ·intro x hx ho
      exact hoth x hx (by rintro rfl; rw [k2] at ho; simp at ho)
     ·intro x o hf
      refine ⟨hf, ?_⟩
      have hne : x ≠ b' := by rintro rfl; exact f o hf
      simp only [World.cell?, hoth x (hbt.fixlt x o hf) hne]
    have hkeep : Keep (fun k => k = .hobj n) w G w' G := by
     refine ⟨?_, fun _ _ h => h⟩
     intro x kx hx hne
     refine ⟨hx, hoth x (hbt.owlt x kx hx) ?_, fun _ h => h⟩
     rintro rfl
     rw [k2] at hx
     simp only [Option.some.injEq] at hx
     exact hne hx.symm
    refine ⟨_, G, rfl, tuple0, hext, ?_⟩
    refine ⟨hbt.only, fun x o hf => Nat.lt_of_lt_of_le (hbt.fixlt x o hf) g4, fun x kx hx => Nat.lt_of_lt_of_le (hbt.owlt x kx hx) g4, ?_, fun m x hx => by simpa using hbt.hdom m x hx⟩
    refine hbt.heap.keepBut hext hkeep (by intro n' k' hne; simp [hne]) ?_
    intro hnlt
    refine .inr ⟨b', hb, k2, f, _, T, hhp, ?_, ?_⟩
    ·rw [hsize]
     have h0 := hlen.1
     simp only [List.length_append, List.length_map, List.length_drop]
     show ts.length + _ ≤ _
     omega
    ·intro j c x hc hx
     have hcj : j < cv.size := by rw [← hsize]; exact (Array.getElem?_eq_some_iff.1 hc).1
     by_cases hj : j < len
     ·have hjt : j < ts.length := by omega
      rw [List.getElem?_append_left (by rw [List.length_map]; exact hjt)] at hx
      simp only [List.getElem?_map, Option.map_eq_some_iff] at hx
      obtain ⟨z, hz1, rfl⟩ := hx
      have hz1 : ts[j]? = some z := hz1
      have : c = .int .i64 z := by
       simp [putCells, hcj, hjt] at hc
       rw [List.getElem?_eq_getElem hjt] at hz1
       simp only [Option.some.injEq] at hz1
       rw [← hc, hz1]
      subst this
      exact ⟨.int _ _, rfl, True.intro⟩
     ·have hjt : ts.length ≤ j := by omega
      rw [List.getElem?_append_right (by rw [List.length_map]; exact hjt)] at hx
      simp only [List.length_map, List.getElem?_drop] at hx
      have hx : cs[len + (j - ts.length)]? = some x := hx
      rw [show len + (j - ts.length) = j by omega] at hx
      have hc' : cv[j]? = some c := by
       simp [putCells, hcj, show ¬ j < ts.length by omega] at hc
       simp [hcj, hc]
      exact (a3 j c x hc' hx).keep hext hkeep (by simp)
   ·simp at hg
  ·simp at hg
 ·rename_i o
  simp only [Option.some.injEq, Prod.mk.injEq] at hg
  obtain ⟨rfl, rfl⟩ := hg
  obtain ⟨l⟩ := vals
  match l, hsz with
  | [v], _ =>
  have hv := hvr 0 v _ rfl rfl
  obtain ⟨p, cap, rfl⟩ : ∃ p cap, v = .slice p 0 cap := by
   cases hv with
   | nils => exact ⟨none, 0, rfl⟩
   | void _ a cap => exact ⟨some a, cap, rfl⟩
   | list _ b off len cap sz _ cv hlen hcap _ _ _ _ => simp at hlen; subst hlen; exact ⟨_, cap, rfl⟩
  refine (hk ▸ Any.slices_Sort_int_none L p cap w).mono ?_
  rintro e w' ⟨rfl, rfl⟩
  exact ⟨_, G, rfl, tuple0, Ext.refl _ _, hbt⟩
 ·simp at hg
end
end PI
