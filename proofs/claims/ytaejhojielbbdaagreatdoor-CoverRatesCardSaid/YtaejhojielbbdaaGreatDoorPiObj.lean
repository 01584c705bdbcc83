/-
  Objects of the heap that are made, or turn, between two regions; marks of loops.
-/
import Derived.Test.YtaejhojielbbdaaGreatDoorPiWpN
set_option linter.unusedSimpArgs false
set_option linter.unusedVariables false
set_option linter.unusedSectionVars false
namespace PI
open Go Go.RowKit
section
variable {E : Env} {N : Nm} {w : World} {G : GS} {st : St} {a : Act} {vs : List Tmp} {lm : Nat → Option Tmp} {P : Program}
theorem turn_obj (hf : FI N w G st a vs lm) {n b : Nat} {ob' : PObj} {mob : Obj} (hb : G.heap n = some b) (how : G.ow b = some (.hobj n))
  (hnf : ∀ o, ¬ G.fix b o) (hnc : w.shape? b = none) (hlo : ∀ s, loopOf w b = some s → loopOf { w with heap := w.heap.setIfInBounds b mob } b = some s)
  (hR : ob' = .gone ∨ ObjR N { w with heap := w.heap.setIfInBounds b mob } G n b ob') :
  Ext w G { w with heap := w.heap.setIfInBounds b mob } G ∧ FI N { w with heap := w.heap.setIfInBounds b mob } G (hset st n ob') a vs lm := by
 let w' : World := { w with heap := w.heap.setIfInBounds b mob }
 have hblt : b < w.heap.size := hf.owlt _ _ how
 have hother : ∀ x, x ≠ b → w'.heap[x]? = w.heap[x]? := fun x hx => by
  simp only [w', Array.getElem?_setIfInBounds]; rw [if_neg (by omega)]
 have hext : Ext w G w' G := by
  refine ⟨rfl, rfl, rfl, by simp [w'], fun x _ hxo => hother x (by rintro rfl; rw [how] at hxo; simp at hxo), ?_, fun _ _ h => .inl h, fun _ h => .inr h, fun _ _ h => h, .one b (fun k _ hk => hother k hk) (fun s hx => by rw [hnc] at hx; simp at hx) hlo, rfl⟩
  intro x o' hfx
  have hxb : x ≠ b := by rintro rfl; exact hnf _ hfx
  refine ⟨hfx, ?_⟩
  simp only [World.cell?, hother x hxb]
 have hkeep : Keep (fun k => k = .hobj n) w G w' G := by
  refine ⟨?_, fun _ _ h => h⟩
  intro x k hx hnk
  have hxb : x ≠ b := by rintro rfl; rw [how] at hx; simp at hx; exact hnk hx.symm
  exact ⟨hx, hother x hxb, fun _ h => h⟩
 have hf1 : FI N w' G (hset st n ob') a vs lm := by
  refine ⟨hf.len, fun i t' u' h1 h2 => (hf.var i t' u' h1 h2).keep hext hkeep (by simp) (by simp), fun i t' u' h1 h2 => (hf.loc i t' u' h1 h2).keep hext hkeep (by simp) (by simp), hf.tv, hf.tl, hf.defers, hf.gen, ?_, ?_, ?_, ?_⟩
  ·intro b' k hb'; simpa [w'] using hf.owlt _ _ hb'
  ·intro b' k hb'; simpa [w'] using hf.fixlt _ _ hb'
  ·exact hf.heap.keepBut hext hkeep (fun m k hne => ⟨by simp; omega, by simp⟩) (fun _ => hR.imp id fun hR => ⟨b, hb, how, hR⟩)
  ·intro m b' h; have := hf.hdom _ _ h; simpa [hset] using this
 exact ⟨hext, hf1⟩
theorem new_obj (hf : FI N w G st a vs lm) {ob : PObj} {mob : Obj}
  (hR : ∀ G', G' = G.more w.heap.size st.heap.length → Ext w G (w.alloc mob) G' → ObjR N (w.alloc mob) G' st.heap.length w.heap.size ob) :
  Ext w G (w.alloc mob) (G.more w.heap.size st.heap.length) ∧ FI N (w.alloc mob) (G.more w.heap.size st.heap.length) { st with heap := st.heap ++ [ob] } a vs lm := by
 let G' : GS := G.more w.heap.size st.heap.length
 have hext : Ext w G (w.alloc mob) G' := by
  refine ⟨rfl, rfl, rfl, by simp, fun b hb _ => alloc_heap_old hb, fun b o h => ⟨h, alloc_cell_old (hf.fixlt _ _ h)⟩, fun _ _ h => .inl h, ?_, ?_, .same fun k hk => alloc_heap_old hk, rfl⟩
  ·intro b hb
   by_cases hlt : b < w.heap.size
   ·refine .inr ?_
    simp only [G', GS.more] at hb
    rw [if_neg (by omega)] at hb
    exact hb
   ·exact .inl (by omega)
  ·intro n b h
   have := hf.hdom _ _ h
   simp only [G', GS.more]
   rw [if_neg (by omega)]; exact h
 have hkeep : Keep (fun _ => False) w G (w.alloc mob) G' := by
  refine ⟨?_, fun _ _ h => h⟩
  intro b k hb _
  have hlt := hf.owlt _ _ hb
  refine ⟨?_, alloc_heap_old hlt, fun _ h => h⟩
  simp only [G', GS.more]
  rw [if_neg (by omega)]; exact hb
 have hf1 : FI N (w.alloc mob) G' { st with heap := st.heap ++ [ob] } a vs lm := by
  refine ⟨hf.len, fun i t u h1 h2 => (hf.var i t u h1 h2).keep hext hkeep (fun h => h) (fun _ _ _ h => h), fun j t u h1 h2 => (hf.loc j t u h1 h2).keep hext hkeep (fun h => h) (fun _ _ _ h => h), hf.tv, hf.tl, hf.defers, hf.gen, ?_, ?_, ?_, ?_⟩
  ·intro b k hb
   simp only [G', GS.more] at hb
   split at hb
   ·simp; omega
   ·have := hf.owlt _ _ hb; simp; omega
  ·intro b o h; have := hf.fixlt _ _ h; simp; omega
  ·exact hf.heap.push hext hkeep (fun _ _ _ => .inr ⟨fun h => h, fun h => h⟩) (.inr ⟨w.heap.size, by simp [G', GS.more], by simp [G', GS.more], hR G' rfl hext⟩)
  ·intro n b h
   simp only [G', GS.more] at h
   simp only [List.length_append, List.length_singleton]
   split at h
   ·omega
   ·have := hf.hdom _ _ h; omega
 exact ⟨hext, hf1⟩
/-- A block that nobody here holds. -/
theorem new_other (hf : FI N w G st a vs lm) (mob : Obj) : Ext w G (w.alloc mob) G ∧ FI N (w.alloc mob) G st a vs lm := by
 have hext : Ext w G (w.alloc mob) G :=
  ⟨rfl, rfl, rfl, by simp, fun b hb _ => alloc_heap_old hb, fun b o h => ⟨h, alloc_cell_old (hf.fixlt _ _ h)⟩, fun _ _ h => .inl h, fun _ h => .inr h, fun _ _ h => h, .same fun k hk => alloc_heap_old hk, rfl⟩
 have hkeep : Keep (fun _ => False) w G (w.alloc mob) G := ⟨fun b k hb _ => ⟨hb, alloc_heap_old (hf.owlt _ _ hb), fun _ h => h⟩, fun _ _ h => h⟩
 exact ⟨hext, hf.ext hext hkeep hf.gen (fun b k h => by have := hf.owlt _ _ h; simp; omega) (fun b o h => by have := hf.fixlt _ _ h; simp; omega)⟩
/-- Nothing hangs on the deferred calls. -/
theorem FI.setDf (hf : FI N w G st a vs lm) (ds : List Deferred) : FI N w { G with df := ds } st { a with defers := ds } vs lm :=
 ⟨hf.len, hf.var, hf.loc, hf.tv, hf.tl, rfl, hf.gen, hf.owlt, hf.fixlt, hf.heap, hf.hdom⟩
theorem Ext.setDf {w' : World} {G' : GS} (h : Ext w G w' G') (ds : List Deferred) : Ext w { G with df := ds } w' { G' with df := ds } :=
 ⟨h.os, h.tape, h.output, h.size, h.same, h.fix, h.newfix, h.own, h.heap, h.shape, rfl⟩
/-- What follows, but for the deferred calls. -/
def ExtD (w : World) (G : GS) (w' : World) (G' : GS) : Prop := Ext w { G with df := G'.df } w' G'
theorem ExtD.of {w' : World} {G' : GS} (h : Ext w G w' G') : ExtD w G w' G' := by
 have := h.setDf G'.df
 exact this
theorem ExtD.refl (w : World) (G : GS) : ExtD w G w G := .of (Ext.refl w G)
theorem ExtD.trans {w1 w2 : World} {G1 G2 : GS} (h : ExtD w G w1 G1) (k : ExtD w1 G1 w2 G2) : ExtD w G w2 G2 := by
 have h1 := Ext.setDf h G2.df
 exact Ext.trans h1 k
theorem ExtD.to {w' : World} {G' : GS} (h : ExtD w G w' G') (hd : G'.df = G.df) : Ext w G w' G' := by
 unfold ExtD at h
 rw [hd] at h
 exact h
/-- Marks of loops that have been entered behind w: their blocks hold no deferred calls, and are nobody's. -/
def Marks (w w' : World) (G' : GS) (ms : List Deferred) : Prop :=
 ∃ bs : List Nat, ms = bs.map (fun b => { target := .collected b, args := #[] }) ∧ bs.Nodup ∧ ∀ b ∈ bs, w.heap.size ≤ b ∧ w'.heap[b]? = some (.deferred (some [])) ∧ G'.ow b = none
theorem Marks.nil (w w' : World) (G' : GS) : Marks w w' G' [] := ⟨[], rfl, List.nodup_nil, by simp⟩
theorem Marks.lt {w' : World} {G' : GS} {b : Nat} (h : w'.heap[b]? = some (.deferred (some []))) : b < w'.heap.size := (Array.getElem?_eq_some_iff.1 h).1
theorem Marks.join {w1 w2 : World} {G1 G2 : GS} {ms1 ms2 : List Deferred} (hs : w.heap.size ≤ w1.heap.size) (h1 : Marks w w1 G1 ms1) (e : ExtD w1 G1 w2 G2) (h2 : Marks w1 w2 G2 ms2) : Marks w w2 G2 (ms2 ++ ms1) := by
 obtain ⟨b1, rfl, n1, k1⟩ := h1
 obtain ⟨b2, rfl, n2, k2⟩ := h2
 refine ⟨b2 ++ b1, by simp, ?_, ?_⟩
 ·rw [List.nodup_append]
  refine ⟨n2, n1, ?_⟩
  rintro x hx y hy rfl
  have := (k2 x hx).1
  have := Marks.lt (G' := G1) (k1 x hy).2.1
  omega
 ·intro b hb
  rcases List.mem_append.1 hb with hb | hb
  ·obtain ⟨j1, j2, j3⟩ := k2 b hb
   exact ⟨by omega, j2, j3⟩
  ·obtain ⟨j1, j2, j3⟩ := k1 b hb
   have hlt := Marks.lt (G' := G1) j2
   refine ⟨j1, (Ext.same e b hlt j3).trans j2, ?_⟩
   cases hx : G2.ow b with
   | none => rfl
   | some k =>
     rcases Ext.own e b (by rw [hx]; simp) with h | h
     ·omega
     ·exact absurd j3 h
end
end PI
