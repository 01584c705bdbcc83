/-
  A law, by the pure interpreter.
-/
import Derived.Test.YtaejhojielbbdaaGreatDoorPiLaw
set_option linter.unusedSimpArgs false
set_option linter.unusedVariables false
set_option linter.unusedSectionVars false
namespace PI
open Go Go.RowKit Go.WideShapes Go.ChangeShapes
section
variable {H : Type} {enc : TypeId × Value → H} {E : Env} {P : Program} {W : World} {base base' : Nat} {spare : Nat → Bool} {held : Bool} {N : Nm} {D : Nat → TyD} {tm : Nat → TypeId}
/-- No cell of an argument is owned. -/
theorem Sh.noOwn {i : Nat} {p : PV} (h : Sh D i p) : ∀ q ∈ p.cells, ∀ es, q ≠ .list true es := by
 induction h with
 | bool i b h => intro q hq es; simp [PV.cells] at hq; subst hq; simp
 | int i k n h h1 h2 => intro q hq es; simp [PV.cells] at hq; subst hq; simp
 | str i s h hl => intro q hq es; simp [PV.cells] at hq; subst hq; simp
 | slice i e b es h hl hb hs ih => intro q hq es; simp [PV.cells] at hq; subst hq; simp
 | struct i fs ps h hl hs ih =>
   intro q hq es
   simp only [PV.cells, List.mem_flatMap] at hq
   obtain ⟨p, hp, hq⟩ := hq
   obtain ⟨j, hj, rfl⟩ := List.mem_iff_getElem.1 hp
   exact ih j (fs[j]'(hl ▸ hj)) ps[j] (List.getElem?_eq_getElem _) (List.getElem?_eq_getElem _) q hq es
theorem Sh.ownNil {i : Nat} {p : PV} (h : Sh D i p) (cs : List Value) : OwnNil cs p.cells := by
 intro j c es _ hx
 exact absurd rfl (h.noOwn _ (List.mem_of_getElem? hx) es)
/-- An argument, read. -/
theorem arg_sh {n i : Nat} {r : Reach} {v : Value} {d : DataW H} {p : List MemPlace} (hM : ∀ i, i < n → matchT P D tm n i = true) (hi : i < n) (hval : Value.okWide P W r base' (tm i) v) (h : DataW.Trod enc P W base spare held (tm i) v d p) (hwg : (d.weights P (tm i)).all (· ≤ reachBytes) = true) :
  ∃ pv, (Sh D i pv ∧ wt pv ≤ dbulk d) ∧ VR N W (fix0 W) (fun _ => none) v pv := by
 obtain ⟨fuel, hf⟩ := h
 obtain ⟨pv, h1, h2, h3⟩ := trod_sh (N := N) (hp := fun _ => none) hM fuel i _ _ hi hf hwg
 refine ⟨pv, h1, ?_⟩
 have h1own := h1.1
 replace h1 := h1.1
 have one : ∀ c : Value, v.cells = #[c] → v = c → pv.cells = [pv] → VR N W (fix0 W) (fun _ => none) v pv := by
  intro c hc hv hp
  rw [hc, hp] at h3
  have := h3.2.2 0 c pv rfl rfl
  rw [hv]; exact this
 have hm := hM i hi
 unfold matchT at hm
 cases h1 with
 | bool b hd =>
   split at hm <;> simp_all
   obtain ⟨b', rfl⟩ := okWide_bool (by assumption) hval
   exact one _ rfl rfl rfl
 | int k m hd _ _ =>
   split at hm <;> simp_all
   obtain ⟨b', rfl⟩ := okWide_int (by assumption) hval
   exact one _ rfl rfl rfl
 | str s hd _ =>
   split at hm <;> simp_all
   obtain ⟨b', rfl⟩ := okWide_string (by assumption) hval
   exact one _ rfl rfl rfl
 | slice e b es hd _ _ _ =>
   split at hm <;> simp_all
   obtain ⟨_, _, _, rfl⟩ := okWide_slice (by assumption) hval
   exact one _ rfl rfl rfl
 | struct fs ps hd _ _ =>
   split at hm <;> simp_all
   obtain ⟨cs, rfl, _⟩ := okWide_struct (by assumption) hval
   have h4 : VR N W (fix0 W) (fun _ => none) (.agg cs.toList.toArray) _ := CellsR.agg (cs := cs.toList) h3 (h1own.ownNil _)
   rw [Array.toArray_toList] at h4
   exact h4
/-- The law's walk. -/
theorem law_walk {L : Nat → Option PFunc} (hE : EnvOk E N) (hP : E.P = P) (hmix : P.follows .mixedOrders = true) (hL : ∀ k pf, L k = some pf → FnS E N k pf) (hT : ∀ t ∈ N.tabs, W.cell? ⟨t.1, t.2.1, none⟩ = some t.2.2) (hTr : ∀ r ∈ N.rows, W.shape? r.1 = some r.2) {m k : Nat} {args : List PV} {h' : List PObj} {vals : Array Value}
  (hpi : call L m k args [] = some (.bool true, h')) (hsz : vals.size = args.length) (hvr : ∀ (i : Nat) (v : Value) (p : PV), vals[i]? = some v → args[i]? = some p → VR N W (fix0 W) (fun _ => none) v p) :
  Calls P (N.fn k) vals W fun e W' => e = .returned (.bool true) ∧ Below W.heap.size W W' := by
 refine (((call_sound hE hP hmix hL m).plain k args _ [] h' hpi).2 W { fix := fix0 W, heap := fun _ => none, box := fun _ => none, ow := fun _ => none } vals ?_ hsz hvr).mono ?_
 ·refine ⟨⟨by intro b k h; simp at h, fun _ => rfl⟩, ?_, by intro b k h; simp at h, ⟨by intro n ob h; simp at h, ⟨fun t ht => ⟨by show (W.cell? _).isSome = true; rw [hT t ht]; rfl, hT t ht⟩, hTr⟩⟩, by intro n b h; simp at h⟩
  intro b o h
  unfold fix0 at h
  obtain ⟨v, hv⟩ := Option.isSome_iff_exists.1 h
  exact World.block_lt_of_cell? W ⟨b, o, none⟩ hv
 ·rintro e w' ⟨v, G', rfl, hv, he, _⟩
  cases hv
  exact ⟨rfl, ⟨he.os, he.tape, he.output, he.size, fun b hb => he.same b hb rfl⟩⟩
end
end PI
