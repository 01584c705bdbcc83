/-
  Blocks that nobody tells of may turn: deferred calls, iterators.
-/
import Derived.Test.YtaejhojielbbdaaGreatDoorPiCodeS
set_option linter.unusedSimpArgs false
set_option linter.unusedVariables false
set_option linter.unusedSectionVars false
namespace PI
open Go Go.RowKit
section
variable {N : Nm}
def inert : Obj → Bool
 | .deferred _ | .mapIter .. => true
 | _ => false
theorem letsOut_then {K : Act → World → Prop} {Q : Exit → Act → World → Prop} (h : ¬ LetsOut Q) : ¬ LetsOut (Exit.then K Q) := fun ⟨a, w, hq⟩ => h ⟨a, w, hq⟩
theorem letsOut_block {id : Nat} {Q : Exit → Act → World → Prop} (h : ¬ LetsOut Q) : ¬ LetsOut (Exit.inBlock id Q) := fun ⟨a, w, hq⟩ => h ⟨a, w, hq⟩
/-- Blocks of deferred calls may turn. -/
structure DefW (w w' : World) : Prop where
 os : w'.os = w.os
 tape : w'.tape = w.tape
 output : w'.output = w.output
 size : w'.heap.size = w.heap.size
 heap : ∀ b : Nat, w'.heap[b]? = w.heap[b]? ∨ ((∃ x, inert x = true ∧ w.heap[b]? = some x) ∧ ∃ y, inert y = true ∧ w'.heap[b]? = some y)
theorem DefW.refl (w : World) : DefW w w := ⟨rfl, rfl, rfl, rfl, fun _ => .inl rfl⟩
theorem DefW.get {w w' : World} (h : DefW w w') {b : Nat} {ob : Obj} (hb : w.heap[b]? = some ob) (hn : inert ob = false) : w'.heap[b]? = some ob := by
 rcases h.heap b with e | ⟨⟨x, i, e⟩, _⟩
 ·rw [e]; exact hb
 ·rw [hb] at e
  cases e
  rw [hn] at i; cases i
theorem DefW.cell {w w' : World} (h : DefW w w') (b o : Nat) : w'.cell? ⟨b, o, none⟩ = w.cell? ⟨b, o, none⟩ := by
 rcases h.heap b with e | ⟨⟨x, i1, e1⟩, y, i2, e2⟩
 ·simp only [World.cell?, e]
 ·simp only [World.cell?, e1, e2]
  cases x <;> simp [inert] at i1 <;> cases y <;> simp [inert] at i2 <;> rfl
theorem DefW.shape {w w' : World} (h : DefW w w') : ShapeLe w w' := by
 refine ⟨?_, ?_⟩
 ·intro b s hb
  rcases h.heap b with e | ⟨⟨x, i1, e1⟩, y, i2, e2⟩
  ·unfold World.shape? at hb ⊢; rw [e]; exact hb
  ·cases x <;> simp [inert] at i1 <;> simp [World.shape?, e1] at hb
 ·intro b s hb
  rcases h.heap b with e | ⟨⟨x, i1, e1⟩, y, i2, e2⟩
  ·unfold loopOf at hb ⊢; rw [e]; exact hb
  ·cases x <;> simp [inert] at i1 <;> simp [loopOf, e1] at hb
theorem VR.def' {w w' : World} {G : GS} {v : Value} {p : PV} (h : VR N w G.fix G.heap v p) (d : DefW w w') : VR N w' G.fix G.heap v p :=
 h.mono (fun b o hf => ⟨hf, d.cell b o⟩) (fun _ _ h => h) d.shape
theorem Room.def' {w w' : World} {G : GS} {key : Key} {v : Value} {es : List PV} (h : Room w G key v es) (d : DefW w w') : Room w' G key v es := by
 unfold Room at *
 split at h
 ·rcases h with h | ⟨h1, sz, cs, T, h2, ⟨fz, h3, h3'⟩, h4⟩
  ·exact .inl h
  ·exact .inr ⟨h1, sz, cs, T, h2, ⟨fz, d.get h3 rfl, h3'⟩, h4⟩
 ·trivial
theorem CR.def' {w w' : World} {G : GS} {key : Key} {v : Value} {p : PV} (h : CR N w G key v p) (d : DefW w w') : CR N w' G key v p := by
 obtain ⟨h1, h2, h3⟩ := h
 refine ⟨h1.def' d, h2, ?_⟩
 split at h3
 ·exact Room.def' h3 d
 ·trivial
theorem MR.def' {w w' : World} {G : GS} {key : Key} {v : Value} {p : PV} (h : MR N w G key v p) (d : DefW w w') : MR N w' G key v p := by
 obtain ⟨h1, h3⟩ := h
 refine ⟨h1.def' d, ?_⟩
 split at h3
 ·exact Room.def' h3 d
 ·trivial
theorem SR.def' {w w' : World} {G : GS} {key : Key} {v : Value} {p : PV} (h : SR N w G key v p) (d : DefW w w') : SR N w' G key v p := by
 unfold SR at *
 split at h
 ·trivial
 ·obtain ⟨b, i, hkey, hv, hb, ho, hf, cv, T, h1, h2, h3⟩ := h
  exact ⟨b, i, hkey, hv, hb, ho, hf, cv, T, d.get h1 rfl, h2, fun k c x hc hx => (h3 k c x hc hx).def' d⟩
 ·exact h
 ·obtain ⟨b, hv, ho, hf, cv, T, h1, h2, h4, h3⟩ := h
  exact ⟨b, hv, ho, hf, cv, T, d.get h1 rfl, h2, h4, fun k c x hc hx => ⟨(h3 k c x hc hx).1.def' d, (h3 k c x hc hx).2⟩⟩
 ·exact ⟨h.1.def' d, Room.def' h.2 d⟩
 ·exact h.def' d
theorem ObjR.def' {w w' : World} {G : GS} {n b : Nat} {ob : PObj} (h : ObjR N w G n b ob) (d : DefW w w') : ObjR N w' G n b ob := by
 cases ob with
 | cells cs =>
   obtain ⟨f, cv, T, a1, a2, a3⟩ := h
   exact ⟨f, cv, T, d.get a1 rfl, a2, fun k c x hc hx => (a3 k c x hc hx).def' d⟩
 | map es =>
   obtain ⟨mes, clock, a1, a2, a3, a4, a5⟩ := h
   exact ⟨mes, clock, d.get a1 rfl, a2, a3, a4, fun i en p hi hp => ⟨(a5 i en p hi hp).1.def' d, (a5 i en p hi hp).2.def' d⟩⟩
 | bld bs =>
   obtain ⟨f, p, v, a1, a2, a3⟩ := h
   refine ⟨f, p, v, d.get a1 rfl, a2, ?_⟩
   rcases a3 with a3 | ⟨g, cap, cur, b1, b2, b3, b4, b5⟩
   ·exact .inl a3
   ·exact .inr ⟨g, cap, cur, b1, b2, b3, d.get b4 rfl, b5⟩
 | siter s pos =>
   obtain ⟨f, s', a1, a2⟩ := h
   exact ⟨f, s', d.get a1 rfl, a2⟩
 | gone => trivial
 | sblob =>
   obtain ⟨mes, clock, a1, a2⟩ := h
   exact ⟨mes, clock, d.get a1 rfl, a2⟩
 | loop ready =>
   obtain ⟨f, r, a1, a2⟩ := h
   exact ⟨f, r, d.get a1 rfl, a2⟩
 | over id =>
   obtain ⟨f, r, a1, a2⟩ := h
   exact ⟨f, r, d.get a1 rfl, a2⟩
theorem BI.def' {w w' : World} {G : GS} {st : St} {a : Act} {vs : List Tmp} {nt : Nat} (h : BI N w G st a vs nt) (d : DefW w w') : BI N w' G st a vs nt := by
 obtain ⟨hf, hs⟩ := h
 refine ⟨⟨hf.len, fun i t u h1 h2 => (hf.var i t u h1 h2).def' d, fun j t u h1 h2 => by simp at h1, hf.tv, hf.tl, hf.defers, hf.gen, by rw [d.size]; exact hf.owlt, by rw [d.size]; exact hf.fixlt, ⟨?_, ?_⟩, hf.hdom⟩, hs⟩
 ·intro n ob hob
  rcases hf.heap.1 n ob hob with h | ⟨b, h1, h2, h3⟩
  ·exact .inl h
  ·exact .inr ⟨b, h1, h2, h3.def' d⟩
 ·refine ⟨fun t ht => ⟨(hf.heap.2.1 t ht).1, ?_⟩, fun r hr => d.shape.1 _ _ (hf.heap.2.2 r hr)⟩
  rw [d.cell]; exact (hf.heap.2.1 t ht).2
end
end PI
