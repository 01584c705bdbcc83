/-
  The pure interpreter is right, 9: calls; every operation.
-/
import Derived.Test.YtegahghjancjpaaGreatDoorPiSoundN
set_option linter.unusedSimpArgs false
set_option linter.unusedVariables false
namespace PI
open Go Go.RowKit

theorem refFrees_get : ∀ {ps : List PV}, refFrees ps = true → ∀ p ∈ ps, refFree p = true
  | [], _, p, hp => by simp at hp
  | x :: xs, h, p, hp => by
    simp only [refFrees, Bool.and_eq_true] at h
    rcases List.mem_cons.1 hp with rfl | hp
    · exact h.1
    · exact refFrees_get h.2 p hp

theorem refFree_cells {p : PV} (h : refFree p = true) : ∀ x ∈ p.cells, refFree x = true := by
  intro x hx
  cases p <;> simp only [PV.cells, List.mem_singleton] at hx <;> first | (subst hx; exact h) | (simp at hx; done) | skip
  exact refFrees_get (by simpa [refFree] using h) x hx

/-- What holds no address of the shared heap reads anywhere. -/
theorem VR.free {N : Nm} {w : World} {fix : Nat → Nat → Prop} {hp hp' : Nat → Option Nat} {v : Value} {p : PV} (h : VR N w fix hp v p) (hr : refFree p = true) : VR N w fix hp' v p := by
  induction h with
  | bool b => exact .bool b
  | int k n => exact .int k n
  | str s => exact .str s
  | nils own => exact .nils own
  | void own a cap => exact .void own a cap
  | nils' => exact .nils'
  | void' a cap => exact .void' a cap
  | list own b off len cap sz es cv hlen hcap hsz hflat hcell _ ih =>
    refine .list own b off len cap sz es cv hlen hcap hsz hflat hcell (fun i e he j x hx => ih i e he j x hx ?_)
    have := refFrees_get (by simpa [refFree] using hr) e (List.mem_of_getElem? he)
    exact refFree_cells this x (List.mem_of_getElem? hx)
  | agg cs ps hlen hflat hown _ ih => exact .agg cs ps hlen hflat hown (fun i c p hc hp => ih i c p hc hp (refFrees_get (by simpa [refFree] using hr) p (List.mem_of_getElem? hp)))
  | tuple cs ps hlen _ ih => exact .tuple cs ps hlen (fun i c p hc hp => ih i c p hc hp (refFrees_get (by simpa [refFree] using hr) p (List.mem_of_getElem? hp)))
  | nilptr => exact .nilptr
  | cptr b off ps cv hflat hcell _ ih => exact .cptr b off ps cv hflat hcell (fun k x hx => ih k x hx (refFrees_get (by simpa [refFree] using hr) x (List.mem_of_getElem? hx)))
  | ptr n off b h => simp [refFree] at hr
  | rowp n sz agg len b cap h hcap hsh => simp [refFree] at hr
  | mapn => exact .mapn
  | map n b h => simp [refFree] at hr
  | func k fs cs pf pc h1 h2 _ _ ihf ihc =>
    simp only [refFree, Bool.and_eq_true] at hr
    exact .func k fs cs pf pc h1 h2 (fun i c p hc hp => ihf i c p hc hp (refFrees_get hr.1 p (List.mem_of_getElem? hp))) (fun i c p hc hp => ihc i c p hc hp (refFrees_get hr.2 p (List.mem_of_getElem? hp)))
  | nilfunc => exact .nilfunc
  | iface t v p _ ih => exact .iface t v p (ih (by simpa [refFree] using hr))
  | nilIface => exact .nilIface

theorem VR.cp_dem {N : Nm} {w : World} {fix : Nat → Nat → Prop} {hp : Nat → Option Nat} {v : Value} {p : PV} (h : VR N w fix hp v p) : cp (PI.dem p) = some (PI.dem p) := by
  cases h <;> rfl

/-- Only the shared heap is owned. -/
structure HeapOnly (G : GS) : Prop where
  ow : ∀ b k, G.ow b = some k → k.isH = true
  box : ∀ g, G.box g = none

/-- What holds between calls. -/
structure Between (N : Nm) (w : World) (G : GS) (h : List PObj) : Prop where
  only : HeapOnly G
  fixlt : ∀ b o, G.fix b o → b < w.heap.size
  owlt : ∀ b k, G.ow b = some k → b < w.heap.size
  heap : HR N w G h
  hdom : ∀ n b, G.heap n = some b → n < h.length

/-- What a call of the library's function k comes to. -/
def CallOK (N : Nm) (P : Program) (cf : CallF) : Prop :=
  ∀ (k : Nat) (args : List PV) (r : PV) (h h' : List PObj), cf k args h = some (r, h') → ∀ (w : World) (G : GS) (vals : Array Value), Between N w G h → vals.size = args.length →
    (∀ (i : Nat) (v : Value) (p : PV), vals[i]? = some v → args[i]? = some p → VR N w G.fix G.heap v p) →
    Calls P (N.fn k) vals w fun e w' => ∃ v G', e = .returned v ∧ VR N w' G'.fix G'.heap v r ∧ Ext w G w' G' ∧ Between N w' G' h'

theorem Room.sub {w : World} {G G' : GS} {key : Key} {v : Value} {es : List PV} (h : Room w G key v es) (hf : G'.fix = G.fix) (ho : ∀ b, G.ow b = some key → G'.ow b = some key) : Room w G' key v es := by
  unfold Room at *
  split at h
  · rename_i a len cap
    rcases h with h | ⟨h1, sz, cs, T, h2, h3, h4, h5, h6⟩
    · exact .inl h
    · exact .inr ⟨ho _ h1, sz, cs, T, h2, h3, h4, h5, by rw [hf]; exact h6⟩
  · trivial

theorem HR.sub {N : Nm} {w : World} {G G' : GS} {heap : List PObj} (h : HR N w G heap) (hf : G'.fix = G.fix) (hh : G'.heap = G.heap) (ho : ∀ b k, k.isH = true → G.ow b = some k → G'.ow b = some k) : HR N w G' heap := by
  refine ⟨?_, by rw [hf]; exact h.2⟩
  intro n ob hob
  rcases h.1 n ob hob with rfl | ⟨b, h1, h2, h3⟩
  · exact .inl rfl
  refine .inr ⟨b, by rw [hh]; exact h1, ho _ _ rfl h2, ?_⟩
  cases ob with
  | cells cs =>
    obtain ⟨f, cv, T, a1, a2, a3⟩ := h3
    refine ⟨by rw [hf]; exact f, cv, T, a1, a2, ?_⟩
    intro k c x hc hx
    obtain ⟨b1, b2, b3⟩ := a3 k c x hc hx
    refine ⟨by rw [hf, hh]; exact b1, b2, ?_⟩
    split at b3
    · exact b3.sub hf (fun b => ho b _ rfl)
    · trivial
  | map es =>
    obtain ⟨mes, clock, a1, a2, a3, a4, a5⟩ := h3
    refine ⟨mes, clock, a1, a2, a3, a4, ?_⟩
    intro i e p hi hp
    obtain ⟨b1, b2, b3⟩ := a5 i e p hi hp
    refine ⟨by rw [hf, hh]; exact b1, by rw [hf, hh]; exact b2, ?_⟩
    split at b3
    · exact b3.sub hf (fun b => ho b _ rfl)
    · trivial
  | bld bs =>
    obtain ⟨f, p, v, a1, a2, a3⟩ := h3
    refine ⟨by rw [hf]; exact f, p, v, a1, a2, ?_⟩
    rcases a3 with a3 | ⟨g, cap, cur, b1, b2, b3, b4⟩
    · exact .inl a3
    · exact .inr ⟨g, cap, cur, b1, ho _ _ rfl b2, by rw [hf]; exact b3, b4⟩
  | siter s pos =>
    obtain ⟨f, s', a1, a2⟩ := h3
    exact ⟨by rw [hf]; exact f, s', a1, a2⟩
  | gone => trivial

def onlyH (ow : Nat → Option Key) (b : Nat) : Option Key :=
  match ow b with
  | some k => if k.isH then some k else none
  | none => none

theorem onlyH_some {ow : Nat → Option Key} {b : Nat} {k : Key} (h : onlyH ow b = some k) : ow b = some k ∧ k.isH = true := by
  unfold onlyH at h
  split at h
  · split at h
    · simp at h; subst h; exact ⟨by assumption, by assumption⟩
    · simp at h
  · simp at h

theorem onlyH_of {ow : Nat → Option Key} {b : Nat} {k : Key} (h : ow b = some k) (hk : k.isH = true) : onlyH ow b = some k := by
  simp [onlyH, h, hk]

/-- The functions of the library stand in the program. -/
def FnsOK (N : Nm) (P : Program) (L : Nat → Option PFunc) : Prop :=
  ∀ k f, L k = some f → ∃ fn, P.funcs[N.fn k]? = some fn ∧ fn.name ≠ "runtime.NumGoroutine" ∧ fn.body.isNone = false

section
variable {E : Env} {N : Nm} {w : World} {G : GS} {st : St} {a : Act} {vs : List Tmp} {ops : List Oper} {P : Program}
variable {o : Oper} {j : Nat} {next : Act → World → Prop} {Q : Exit → Act → World → Prop} {u : PV} {st1 : St}

theorem run_callFunc {L : Nat → Option PFunc} (hF : FnsOK N P L) {k : Nat} {f : PFunc} (hL : L k = some f) (args : Array Value) (w : World) : (callFunc (N.fn k) args).run P w = .ok (.enter (N.fn k) args) w := by
  obtain ⟨fn, h1, h2, h3⟩ := hF k f hL
  have h2' : (fn.name == "runtime.NumGoroutine") = false := by simpa using h2
  simp only [callFunc, Sem.run_bind, run_program, Result.andThen_ok, h1, h2', h3, Bool.false_eq_true, if_false, Sem.run_pure]

/-- The end of a call without the heap, for the caller. -/
theorem called_sound (nm : Names vs (lmap vs ops)) (ho : ops[j]? = some o) (hf : FI N w G st a vs (lmap vs ops)) {cf : CallF} (hcf : CallOK N P cf) {k : Nat} {args : List PV} {vals : Array Value} {r : PV} {h' : List PObj}
    (hsz : vals.size = args.length) (hv : ∀ (i : Nat) (v : Value) (p : PV), vals[i]? = some v → args[i]? = some p → VR N w G.fix G.heap v p) (hfree : refFrees args = true) (hc : cf k args [] = some (r, h')) (hr : refFree r = true)
    (hrun : (execOp a.eval o).run P w = .ok (.enter (N.fn k) vals) w) (hk : Goes N w G a st (dem r) vs ops j o next) : o.wp P a w next Q := by
  unfold Oper.wp
  rw [hrun]
  let Gc : GS := { fix := G.fix, heap := fun _ => none, box := fun _ => none, ow := fun _ => none }
  have hbt : Between N w Gc [] := ⟨⟨by intro b k h; simp [Gc] at h, fun _ => rfl⟩, hf.fixlt, by intro b k h; simp [Gc] at h, ⟨by intro n ob h; simp at h, hf.heap.2⟩, by intro n b h; simp [Gc] at h⟩
  refine (hcf k args r [] h' hc w Gc vals hbt hsz (fun i v p h1 h2 => (hv i v p h1 h2).free (refFrees_get hfree p (List.mem_of_getElem? h2)))).mono ?_
  rintro e w' ⟨v, G2, rfl, hvr, he, hb2⟩
  let G' : GS := { G with fix := G2.fix }
  have hblock : ∀ b, b < w.heap.size → w'.heap[b]? = w.heap[b]? := fun b hb => he.same b hb rfl
  have hnew : ∀ b o, G2.fix b o → G.fix b o ∨ w.heap.size ≤ b := by
    intro b o h
    rcases he.newfix b o h with h | h | h
    · exact .inl h
    · exact .inr h
    · exact absurd rfl h
  have hext : Ext w G w' G' := by
    refine ⟨he.os, he.tape, he.output, he.size, fun b hlt _ => hblock b hlt, fun b o h => he.fix b o h, ?_, fun _ h => .inr h, fun _ _ h => h, he.shape⟩
    intro b o h
    rcases hnew b o h with h | h
    · exact .inl h
    · exact .inr (.inl h)
  have hkeep : Keep (fun _ => False) w G w' G' := by
    refine ⟨?_, fun _ _ h => h⟩
    intro b key hb' _
    have hlt' := hf.owlt _ _ hb'
    refine ⟨hb', hblock b hlt', ?_⟩
    intro o h
    rcases hnew b o h with h | h
    · exact h
    · omega
  have hf1 := hf.ext (G' := G') hext hkeep hf.gen (fun b key h => Nat.lt_of_lt_of_le (hf.owlt b key h) he.size) hb2.fixlt
  have hvr' : VR N w' G'.fix G'.heap v (dem r) := (hvr.free hr).dem
  exact hk _ _ G' (hf1.put nm (cDst_ok ho) (SR.of_pure hvr' hvr.cp_dem)) hext (put_size _ _ _)

/-- The end of a call with the heap, for the caller. -/
theorem called_heap (nm : Names vs (lmap vs ops)) (ho : ops[j]? = some o) (hf : FI N w G st a vs (lmap vs ops)) {cf : CallF} (hcf : CallOK N P cf) {k : Nat} {args : List PV} {vals : Array Value} {r : PV} {h' : List PObj}
    (hsz : vals.size = args.length) (hv : ∀ (i : Nat) (v : Value) (p : PV), vals[i]? = some v → args[i]? = some p → VR N w G.fix G.heap v p) (hc : cf k args st.heap = some (r, h'))
    (hrun : (execOp a.eval o).run P w = .ok (.enter (N.fn k) vals) w) (hk : Goes N w G a { st with heap := h' } (dem r) vs ops j o next) : o.wp P a w next Q := by
  unfold Oper.wp
  rw [hrun]
  let Gc : GS := { fix := G.fix, heap := G.heap, box := fun _ => none, ow := onlyH G.ow }
  have hbt : Between N w Gc st.heap := ⟨⟨fun b k h => (onlyH_some h).2, fun _ => rfl⟩, hf.fixlt, fun b k h => hf.owlt b k (onlyH_some h).1, hf.heap.sub rfl rfl (fun b k hk h => onlyH_of h hk), hf.hdom⟩
  refine (hcf k args r st.heap h' hc w Gc vals hbt hsz hv).mono ?_
  rintro e w' ⟨v, G2, rfl, hvr, he, hb2⟩
  let G' : GS := { fix := G2.fix, heap := G2.heap, box := G.box, ow := fun b => match G.ow b with | some k => if k.isH then G2.ow b else some k | none => G2.ow b }
  have hext : Ext w G w' G' := by
    refine ⟨he.os, he.tape, he.output, he.size, fun b hlt h => he.same b hlt (by simp [Gc, onlyH, h]), fun b o h => he.fix b o h, ?_, ?_, he.heap, he.shape⟩
    · intro b o h
      rcases he.newfix b o h with h | h | h
      · exact .inl h
      · exact .inr (.inl h)
      · refine .inr (.inr ?_)
        intro e
        apply h
        simp [Gc, onlyH, e]
    · intro b h
      cases hb : G.ow b with
      | some k => exact .inr (by simp)
      | none =>
        simp only [G', hb] at h
        rcases he.own b h with h | h
        · exact .inl h
        · exact absurd (by simp [Gc, onlyH, hb]) h
  have hkeep : Keep (fun k => k.isH = true) w G w' G' := by
    refine ⟨?_, fun _ _ h => h⟩
    intro b key hb' hn
    have hlt' := hf.owlt _ _ hb'
    have hnone : Gc.ow b = none := by simp [Gc, onlyH, hb', hn]
    refine ⟨by simp [G', hb', hn], he.same b hlt' hnone, ?_⟩
    intro o h
    rcases he.newfix b o h with h | h | h
    · exact h
    · omega
    · exact absurd hnone h
  have hheap : HR N w' G' h' := by
    refine hb2.heap.sub rfl rfl ?_
    intro b k hkH h
    cases hb : G.ow b with
    | none => simp only [G', hb]; exact h
    | some k0 =>
      by_cases hk0 : k0.isH = true
      · simp only [G', hb, hk0, if_true]; exact h
      · have hnone : Gc.ow b = none := by simp [Gc, onlyH, hb, hk0]
        have hlt := hf.owlt _ _ hb
        rcases he.own b (by rw [h]; simp) with h2 | h2
        · omega
        · exact absurd hnone h2
  have hf1 : FI N w' G' { st with heap := h' } a vs (lmap vs ops) := by
    refine ⟨hf.len, fun i t u h1 h2 => (hf.var i t u h1 h2).keep hext hkeep (by simp [Key.isH]) (by simp [Key.isH]), fun j t u h1 h2 => (hf.loc j t u h1 h2).keep hext hkeep (by simp [Key.isH]) (by simp [Key.isH]), hf.tv, hf.tl, hf.defers, hf.gen, ?_, hb2.fixlt, hheap, hb2.hdom⟩
    intro b k h
    cases hb : G.ow b with
    | some k0 => exact Nat.lt_of_lt_of_le (hf.owlt _ _ hb) he.size
    | none =>
      simp only [G', hb] at h
      exact hb2.owlt _ _ h
  exact hk _ _ G' (hf1.put nm (cDst_ok ho) (SR.of_pure hvr.dem hvr.cp_dem)) hext (put_size _ _ _)

theorem vals_of {xs : Array Operand} {us : List PV} (h1 : xs.toList.length = us.length) (h2 : ∀ (i : Nat) (x : Operand) (u : PV), xs.toList[i]? = some x → us[i]? = some u → VR N w G.fix G.heap (a.eval x) u ∧ cp u = some u) :
    (xs.map a.eval).size = us.length ∧ ∀ (i : Nat) (v : Value) (p : PV), (xs.map a.eval)[i]? = some v → us[i]? = some p → VR N w G.fix G.heap v p := by
  refine ⟨by simpa using h1, ?_⟩
  intro i v p hv hp
  simp only [Array.getElem?_map, Option.map_eq_some_iff] at hv
  obtain ⟨x, hx, rfl⟩ := hv
  exact (h2 i x p (by simpa using hx) hp).1

theorem pcall_sound {L : Nat → Option PFunc} (hF : FnsOK N P L) (hE : EnvOk E N) (nm : Names vs (lmap vs ops)) (ho : ops[j]? = some o) (hf : FI N w G st a vs (lmap vs ops)) {cf : CallF} (hcf : CallOK N P cf) (hcL : ∀ k args h r, cf k args h = some r → ∃ f, L k = some f)
    {f : FuncId} {k : Nat} {xs : Array Operand} {ts : Array TypeId} {pxs : List PX} (hop : o.op = .call { callee := .value (.func f), args := xs, argTypes := ts }) (hk' : E.inv f = some k) (hx : cxs E vs ops xs.toList = some pxs)
    (hs : opv cf (.pcall k pxs) st = some (u, st1)) (hk : Goes N w G a st1 u vs ops j o next) : o.wp P a w next Q := by
  simp only [opv] at hs
  split at hs
  · rename_i us hus
    split at hs
    · rename_i hfree
      split at hs
      · rename_i r h' hc
        split at hs
        · rename_i hr
          simp only [Option.some.injEq, Prod.mk.injEq] at hs
          obtain ⟨rfl, rfl⟩ := hs
          obtain ⟨h1, h2⟩ := rdAll_sound hE hf hx hus
          obtain ⟨g1, g2⟩ := vals_of (w := w) (G := G) h1 h2
          obtain ⟨pf, hL⟩ := hcL _ _ _ _ hc
          have hfn := hE.fn _ _ hk'
          refine called_sound nm ho hf hcf g1 g2 hfree hc hr ?_ hk
          have := run_callFunc hF hL (xs.map a.eval) w
          rw [hfn] at this
          rw [hfn]
          simp [execOp, hop, resolve, Act.eval, Deferred.ofValue, invoke]
          exact this
        · simp at hs
      · simp at hs
    · simp at hs
  · simp at hs

theorem callv_sound {L : Nat → Option PFunc} (hF : FnsOK N P L) (hE : EnvOk E N) (nm : Names vs (lmap vs ops)) (ho : ops[j]? = some o) (hf : FI N w G st a vs (lmap vs ops)) {cf : CallF} (hcf : CallOK N P cf) (hcL : ∀ k args h r, cf k args h = some r → ∃ f, L k = some f)
    {t : Tmp} {px : PX} {xs : Array Operand} {ts : Array TypeId} {pxs : List PX} (hop : o.op = .call { callee := .value (.tmp t), args := xs, argTypes := ts }) (hpx : cx E vs ops (.tmp t) = some px) (hx : cxs E vs ops xs.toList = some pxs)
    (hs : opv cf (.callv px pxs) st = some (u, st1)) (hk : Goes N w G a st1 u vs ops j o next) : o.wp P a w next Q := by
  simp only [opv] at hs
  split at hs
  · rename_i k first captured us hfv hus
    split at hs
    · rename_i hfree
      split at hs
      · rename_i r h' hc
        split at hs
        · rename_i hr
          simp only [Option.some.injEq, Prod.mk.injEq] at hs
          obtain ⟨rfl, rfl⟩ := hs
          obtain ⟨h1, h2⟩ := rdAll_sound hE hf hx hus
          obtain ⟨g1, g2⟩ := vals_of (w := w) (G := G) h1 h2
          obtain ⟨pf, hL⟩ := hcL _ _ _ _ hc
          have hfun := (rd_sound hE hpx hf hfv).1
          generalize hv : a.eval (.tmp t) = v at hfun
          cases hfun with
          | func _ fs cs _ _ e1 e2 hfs hcs =>
            refine called_sound (vals := fs ++ xs.map a.eval ++ cs) nm ho hf hcf (by simp [e1, e2]; simpa using h1) ?_ hfree hc hr ?_ hk
            · intro i v p hv' hp
              by_cases hi : i < fs.size
              · rw [Array.append_assoc, Array.getElem?_append_left hi] at hv'
                rw [List.append_assoc, List.getElem?_append_left (by omega)] at hp
                exact hfs i v p hv' hp
              · rw [Array.append_assoc, Array.getElem?_append_right (by omega)] at hv'
                rw [List.append_assoc, List.getElem?_append_right (by omega), ← e1] at hp
                by_cases hi2 : i - fs.size < (xs.map a.eval).size
                · rw [Array.getElem?_append_left hi2] at hv'
                  rw [List.getElem?_append_left (by omega)] at hp
                  exact g2 _ v p hv' hp
                · rw [Array.getElem?_append_right (by omega)] at hv'
                  rw [List.getElem?_append_right (by omega), ← g1] at hp
                  exact hcs _ v p hv' hp
            · have := run_callFunc hF hL (fs ++ xs.map a.eval ++ cs) w
              simp only [execOp, hop, resolve, Sem.run_bind, hv, Deferred.ofValue, Sem.run_pure, Result.andThen_ok, invoke]
              exact this
        · simp at hs
      · simp at hs
    · simp at hs
  · simp at hs

theorem hcall_sound {L : Nat → Option PFunc} (hF : FnsOK N P L) (hE : EnvOk E N) (nm : Names vs (lmap vs ops)) (ho : ops[j]? = some o) (hf : FI N w G st a vs (lmap vs ops)) {cf : CallF} (hcf : CallOK N P cf) (hcL : ∀ k args h r, cf k args h = some r → ∃ f, L k = some f)
    {f : FuncId} {k : Nat} {xs : Array Operand} {ts : Array TypeId} {pxs : List PX} (hop : o.op = .call { callee := .value (.func f), args := xs, argTypes := ts }) (hk' : E.inv f = some k) (hx : cxs E vs ops xs.toList = some pxs)
    (hs : hopv cf (.call k pxs) st = some (u, st1)) (hk : Goes N w G a st1 u vs ops j o next) : o.wp P a w next Q := by
  simp only [hopv, Option.bind_eq_some_iff, Option.map_eq_some_iff, Prod.mk.injEq] at hs
  obtain ⟨us, hus, ⟨r, h'⟩, hc, rfl, rfl⟩ := hs
  obtain ⟨h1, h2⟩ := rdAll_sound hE hf hx hus
  obtain ⟨g1, g2⟩ := vals_of (w := w) (G := G) h1 h2
  obtain ⟨pf, hL⟩ := hcL _ _ _ _ hc
  have hfn := hE.fn _ _ hk'
  refine called_heap nm ho hf hcf g1 g2 hc ?_ hk
  have := run_callFunc hF hL (xs.map a.eval) w
  rw [hfn] at this
  rw [hfn]
  simp [execOp, hop, resolve, Act.eval, Deferred.ofValue, invoke]
  exact this

theorem hcallv_sound {L : Nat → Option PFunc} (hF : FnsOK N P L) (hE : EnvOk E N) (nm : Names vs (lmap vs ops)) (ho : ops[j]? = some o) (hf : FI N w G st a vs (lmap vs ops)) {cf : CallF} (hcf : CallOK N P cf) (hcL : ∀ k args h r, cf k args h = some r → ∃ f, L k = some f)
    {t : Tmp} {px : PX} {xs : Array Operand} {ts : Array TypeId} {pxs : List PX} (hop : o.op = .call { callee := .value (.tmp t), args := xs, argTypes := ts }) (hpx : cx E vs ops (.tmp t) = some px) (hx : cxs E vs ops xs.toList = some pxs)
    (hs : hopv cf (.callv px pxs) st = some (u, st1)) (hk : Goes N w G a st1 u vs ops j o next) : o.wp P a w next Q := by
  simp only [hopv] at hs
  split at hs
  · rename_i k first captured us hfv hus
    simp only [Option.map_eq_some_iff, Prod.mk.injEq] at hs
    obtain ⟨⟨r, h'⟩, hc, rfl, rfl⟩ := hs
    obtain ⟨h1, h2⟩ := rdAll_sound hE hf hx hus
    obtain ⟨g1, g2⟩ := vals_of (w := w) (G := G) h1 h2
    obtain ⟨pf, hL⟩ := hcL _ _ _ _ hc
    have hfun := (rd_sound hE hpx hf hfv).1
    generalize hv : a.eval (.tmp t) = v at hfun
    cases hfun with
    | func _ fs cs _ _ e1 e2 hfs hcs =>
      refine called_heap (vals := fs ++ xs.map a.eval ++ cs) nm ho hf hcf (by simp [e1, e2]; simpa using h1) ?_ hc ?_ hk
      · intro i v p hv' hp
        by_cases hi : i < fs.size
        · rw [Array.append_assoc, Array.getElem?_append_left hi] at hv'
          rw [List.append_assoc, List.getElem?_append_left (by omega)] at hp
          exact hfs i v p hv' hp
        · rw [Array.append_assoc, Array.getElem?_append_right (by omega)] at hv'
          rw [List.append_assoc, List.getElem?_append_right (by omega), ← e1] at hp
          by_cases hi2 : i - fs.size < (xs.map a.eval).size
          · rw [Array.getElem?_append_left hi2] at hv'
            rw [List.getElem?_append_left (by omega)] at hp
            exact g2 _ v p hv' hp
          · rw [Array.getElem?_append_right (by omega)] at hv'
            rw [List.getElem?_append_right (by omega), ← g1] at hp
            exact hcs _ v p hv' hp
      · have := run_callFunc hF hL (fs ++ xs.map a.eval ++ cs) w
        simp only [execOp, hop, resolve, Sem.run_bind, hv, Deferred.ofValue, Sem.run_pure, Result.andThen_ok, invoke]
        exact this
  · simp at hs

/-- Every operation on the heap. -/
theorem hop_sound {L : Nat → Option PFunc} (hF : FnsOK N P L) (hE : EnvOk E N) (hP : E.P = P) (nm : Names vs (lmap vs ops)) (ho : ops[j]? = some o) (hf : FI N w G st a vs (lmap vs ops)) {cf : CallF} (hcf : CallOK N P cf)
    (hcL : ∀ k args h r, cf k args h = some r → ∃ f, L k = some f) {po : HOp} (hc : cHeap E vs ops o = some po) (hs : hopv cf po st = some (u, st1)) (hk : Goes N w G a st1 u vs ops j o next) : o.wp P a w next Q := by
  subst hP
  unfold cHeap at hc
  split at hc
  · rename_i t hop
    split at hc
    · simp at hc
    · split at hc
      · rename_i hb
        simp only [Option.some.injEq] at hc
        subst hc
        exact newbld_sound hE rfl nm ho hf hop hb hs hk
      · simp only [Option.map_eq_some_iff] at hc
        obtain ⟨z, hz, rfl⟩ := hc
        exact newobj_sound nm ho hf hop hz hs hk
  · rename_i t x hop
    split at hc
    · simp at hc
    · simp only [Option.bind_eq_some_iff, Option.map_eq_some_iff] at hc
      obtain ⟨n, hn, p, hp, rfl⟩ := hc
      exact boxobj_sound hE nm ho hf hop hn hp hs hk
  · rename_i t x hop
    split at hc
    · simp only [Option.bind_eq_some_iff, Option.map_eq_some_iff] at hc
      obtain ⟨n, hn, p, hp, rfl⟩ := hc
      exact hload_sound hE nm ho hf hop hn hp hs hk
    · split at hc
      · simp only [Option.bind_eq_some_iff, Option.map_eq_some_iff] at hc
        obtain ⟨n, hn, p, hp, rfl⟩ := hc
        exact loadc_sound hE nm ho hf hop hn hp hs hk
      · simp at hc
  · rename_i t x y hop
    split at hc
    · rename_i hd
      simp only [Option.bind_eq_some_iff, Option.map_eq_some_iff] at hc
      obtain ⟨n, hn, p, hp, q, hq, rfl⟩ := hc
      exact hstore_sound hE nm ho hf hop hd.1 hn hp hq hs hk
    · simp at hc
  · rename_i t x i hop
    split at hc
    · rename_i len e hu
      split at hc
      · simp only [Option.bind_eq_some_iff, Option.map_eq_some_iff] at hc
        obtain ⟨n, hn, p, hp, q, hq, rfl⟩ := hc
        exact hiaddr_sound hE nm ho hf hop hu hn hp hq hs hk
      · simp at hc
    · simp at hc
  · rename_i t hop
    split at hc
    · simp at hc
    · simp only [Option.some.injEq] at hc
      subst hc
      exact mkmap_sound nm ho hf hop hs hk
  · rename_i t m k ok hop
    split at hc
    · rename_i kt e hu
      simp only [Option.bind_eq_some_iff, Option.map_eq_some_iff, keyT] at hc
      obtain ⟨_, ⟨kk, hkk, rfl⟩, z, hz, p, hp, q, hq, rfl⟩ := hc
      exact lookup_sound hE nm ho hf hop hu hkk hz hp hq hs hk
    · simp at hc
  · rename_i t m k v hop
    split at hc
    · rename_i kt e hu
      split at hc
      · rename_i hd
        simp only [Option.bind_eq_some_iff, Option.map_eq_some_iff, keyT] at hc
        obtain ⟨_, ⟨kk, hkk, rfl⟩, p, hp, q, hq, r, hr, rfl⟩ := hc
        exact mset_sound hE nm ho hf (.inl hop) hd hu hkk hp hq hr hs hk
      · simp at hc
    · simp at hc
  · rename_i t m k v hop
    split at hc
    · rename_i kt e hu
      split at hc
      · rename_i hd
        simp only [Option.bind_eq_some_iff, Option.map_eq_some_iff, keyT] at hc
        obtain ⟨_, ⟨kk, hkk, rfl⟩, p, hp, q, hq, r, hr, rfl⟩ := hc
        exact mset_sound hE nm ho hf (.inr hop) hd hu hkk hp hq hr hs hk
      · simp at hc
    · simp at hc
  · rename_i op t x y t' hop
    split at hc
    · rename_i hcond
      simp only [Option.bind_eq_some_iff, Option.map_eq_some_iff] at hc
      obtain ⟨kd, hkd, p, hp, rfl⟩ := hc
      exact isnil_sound hE nm ho hf hop hcond hkd hp hs hk
    · simp at hc
  · rename_i x hop
    simp only [Option.map_eq_some_iff] at hc
    obtain ⟨p, hp, rfl⟩ := hc
    exact nilchk_sound hE nm ho hf hop hp hs hk
  · rename_i t l c' hop
    split at hc
    · rename_i e hu
      split at hc
      · rename_i size z hn hz
        split at hc
        · simp at hc
        · rename_i hcond
          simp only [Bool.or_eq_true, not_or, Bool.not_eq_true, Bool.not_eq_false'] at hcond
          simp only [Option.map_eq_some_iff] at hc
          obtain ⟨p, hp, rfl⟩ := hc
          exact mkarr_sound hE nm ho hf hop hu hn hz hcond.2 hp hs hk
      · simp at hc
    · simp at hc
  · rename_i t x hop
    split at hc
    · rename_i hu
      split at hc
      · simp at hc
      · simp only [Option.map_eq_some_iff] at hc
        obtain ⟨p, hp, rfl⟩ := hc
        exact range_sound hE nm ho hf hop hu hp hs hk
    · simp at hc
  · rename_i x hop
    split at hc
    · simp at hc
    · simp only [Option.map_eq_some_iff] at hc
      obtain ⟨p, hp, rfl⟩ := hc
      exact next_sound hE nm ho hf hop hp hs hk
  · rename_i t parts hop
    split at hc
    · rename_i n e hu
      split at hc
      · rename_i size z hn hz
        simp only [Option.map_eq_some_iff] at hc
        obtain ⟨ps, hps, rfl⟩ := hc
        exact barr_sound hE nm ho hf hop hu hn hz hps hs hk
      · simp at hc
    · simp at hc
  · rename_i t x i hop
    split at hc
    · rename_i len e hu
      simp only [Option.bind_eq_some_iff, Option.map_eq_some_iff] at hc
      obtain ⟨n, hn, p, hp, q, hq, rfl⟩ := hc
      exact idxA_sound hE nm ho hf hop hu hn hp hq hs hk
    · simp at hc
  · rename_i fn xs ys hop
    split at hc
    · simp at hc
    · simp only [Option.bind_eq_some_iff, Option.map_eq_some_iff] at hc
      obtain ⟨f, hfn, k, hk', ps, hps, qs, hqs, rfl⟩ := hc
      have : fn = .func f := by
        unfold isFn at hfn
        split at hfn
        · simp at hfn; subst hfn; rfl
        · simp at hfn
      subst this
      exact mkfunc_sound hE nm ho hf hop hk' hps hqs hs hk
  · rename_i args ts hop
    obtain ⟨args⟩ := args
    obtain ⟨ts⟩ := ts
    split at hc
    · rename_i s x t1 t2 hargs hts
      simp only at hargs hts
      subst hargs hts
      split at hc
      · split at hc
        · rename_i e e' hu hu'
          split at hc
          · rename_i size z hn hz
            simp only [Option.bind_eq_some_iff, Option.map_eq_some_iff] at hc
            obtain ⟨p, hp, q, hq, rfl⟩ := hc
            exact happ_sound hE nm ho hf hop hu hu' hn hz hp hq hs hk
          · simp at hc
        · simp at hc
      · simp at hc
    · simp at hc
  · rename_i args ts hop
    obtain ⟨args⟩ := args
    obtain ⟨ts⟩ := ts
    split at hc
    · rename_i x t rest hargs hts
      simp only at hargs hts
      subst hargs hts
      split at hc
      · rename_i kt e hu
        split at hc
        · simp at hc
        · simp only [Option.map_eq_some_iff] at hc
          obtain ⟨p, hp, rfl⟩ := hc
          exact mlen_sound hE nm ho hf hop rfl hu hp hs hk
      · simp at hc
    · simp at hc
  · rename_i f args ts hop
    split at hc
    · simp only [Option.bind_eq_some_iff, Option.map_eq_some_iff] at hc
      obtain ⟨k, hk', ps, hps, rfl⟩ := hc
      exact hcall_sound hF hE nm ho hf hcf hcL hop hk' hps hs hk
    · simp at hc
  · rename_i t args ts hop
    split at hc
    · simp only [Option.bind_eq_some_iff, Option.map_eq_some_iff] at hc
      obtain ⟨p, hp, ps, hps, rfl⟩ := hc
      exact hcallv_sound hF hE nm ho hf hcf hcL hop hp hps hs hk
    · simp at hc
  · simp at hc

/-- Every operation. -/
theorem op_sound {L : Nat → Option PFunc} (hF : FnsOK N P L) (hE : EnvOk E N) (hP : E.P = P) (nm : Names vs (lmap vs ops)) (ho : ops[j]? = some o) (hf : FI N w G st a vs (lmap vs ops)) {cf : CallF} (hcf : CallOK N P cf)
    (hcL : ∀ k args h r, cf k args h = some r → ∃ f, L k = some f) {po : POp} (hc : cOp E vs ops o = some po) (hs : opv cf po st = some (u, st1)) (hk : Goes N w G a st1 u vs ops j o next) : o.wp P a w next Q := by
  unfold cOp at hc
  simp only at hc
  split at hc
  · rename_i h hch
    simp only [Option.some.injEq] at hc
    subst hc
    exact hop_sound hF hE hP nm ho hf hcf hcL hch (by simpa [opv] using hs) hk
  rename_i hnone
  subst hP
  split at hc
  · -- move
    rename_i x hop
    simp only [Option.map_eq_some_iff] at hc
    obtain ⟨p, hp, rfl⟩ := hc
    split at hs
    · exact take_sound hE nm ho hf (by simp [execOp, hop]) hp (by simpa [opv] using hs) hk
    · exact mov_sound hE nm ho hf (by simp [execOp, hop]) hp (by simpa [opv] using hs) hk
  · rename_i x hop
    simp only [Option.map_eq_some_iff] at hc
    obtain ⟨p, hp, rfl⟩ := hc
    exact take_sound hE nm ho hf (by simp [execOp, hop]) hp (by simpa [opv] using hs) hk
  · rename_i x y z hop
    simp only [Option.bind_eq_some_iff, Option.map_eq_some_iff] at hc
    obtain ⟨px, hpx, pa, hpa, pb, hpb, rfl⟩ := hc
    exact pick_sound hE nm ho hf hop hpx hpa hpb hs hk
  · rename_i t hop
    split at hc
    · rename_i hv
      simp only [Option.map_eq_some_iff] at hc
      obtain ⟨z, hz, rfl⟩ := hc
      exact newloc_sound nm ho hf hop hz hv hs hk
    · simp at hc
  · rename_i t x hop
    split at hc
    · rename_i hv
      simp only [Option.bind_eq_some_iff, Option.map_eq_some_iff] at hc
      obtain ⟨n, hn, p, hp, rfl⟩ := hc
      exact boxloc_sound hE nm ho hf hop hn hp hv hs hk
    · simp at hc
  · rename_i t parts hop
    split at hc
    · rename_i fs z hu hz
      split at hc
      · rename_i places hpl
        simp only [Option.map_eq_some_iff] at hc
        obtain ⟨ps, hps, rfl⟩ := hc
        exact build_sound hE nm ho hf hop hu hz hpl hps hs hk
      · simp at hc
    · simp at hc
  · rename_i t len parts hop
    split at hc
    · rename_i e hu
      split at hc
      · rename_i size z hn hz
        split at hc
        · rename_i hlen
          simp only [Option.map_eq_some_iff] at hc
          obtain ⟨ps, hps, rfl⟩ := hc
          exact mkslice_sound hE nm ho hf hop hu hn hz hlen hps hs hk
        · simp at hc
      · simp at hc
    · simp at hc
  · rename_i t x hop
    simp only [Option.bind_eq_some_iff, Option.map_eq_some_iff] at hc
    obtain ⟨n, hn, p, hp, rfl⟩ := hc
    exact load_sound hE nm ho hf hop hn hp hs hk
  · rename_i t x y hop
    split at hc
    · rename_i hd
      simp only [Option.bind_eq_some_iff, Option.map_eq_some_iff] at hc
      obtain ⟨n, hn, p, hp, q, hq, rfl⟩ := hc
      exact store_sound hE nm ho hf hop hd hn hp hq hs hk
    · simp at hc
  · rename_i s x f hop
    split at hc
    · rename_i fs hu
      split at hc
      · rename_i fd hfd
        simp only [Option.bind_eq_some_iff, Option.map_eq_some_iff] at hc
        obtain ⟨n, hn, p, hp, rfl⟩ := hc
        exact faddr_sound hE nm ho hf hop hu hfd hn hp hs hk
      · simp at hc
    · simp at hc
  · rename_i t x i hop
    split at hc
    · rename_i e hu
      simp only [Option.bind_eq_some_iff, Option.map_eq_some_iff] at hc
      obtain ⟨n, hn, p, hp, q, hq, rfl⟩ := hc
      exact iaddrS_sound hE nm ho hf hop hu hn hp hq hs hk
    · rename_i len e hu
      simp only [Option.bind_eq_some_iff, Option.map_eq_some_iff] at hc
      obtain ⟨n, hn, p, hp, q, hq, rfl⟩ := hc
      exact iaddrA_sound hE nm ho hf hop hu hn hp hq hs hk
    · simp at hc
  · rename_i t x f hop
    split at hc
    · rename_i fs hu
      split at hc
      · rename_i fd hfd
        simp only [Option.bind_eq_some_iff, Option.map_eq_some_iff] at hc
        obtain ⟨n, hn, p, hp, rfl⟩ := hc
        exact field_sound hE nm ho hf hop hu hfd hn hp hs hk
      · simp at hc
    · simp at hc
  · rename_i t x i hop
    split at hc
    · rename_i hu
      simp only [Option.bind_eq_some_iff, Option.map_eq_some_iff] at hc
      obtain ⟨p, hp, q, hq, rfl⟩ := hc
      exact indexStr_sound hE nm ho hf hop hu hp hq hs hk
    · simp at hc
  · rename_i t x lo hi hop
    split at hc
    · rename_i hu
      simp only [Option.bind_eq_some_iff, Option.map_eq_some_iff] at hc
      obtain ⟨p, hp, pl, hl, ph, hh, rfl⟩ := hc
      exact sliceS_sound hE nm ho hf hop hu hp hl hh hs hk
    · rename_i e hu
      simp only [Option.bind_eq_some_iff, Option.map_eq_some_iff] at hc
      obtain ⟨n, hn, p, hp, pl, hl, ph, hh, rfl⟩ := hc
      exact sliceL_sound hE nm ho hf hop hu hn hp hl hh hs hk
    · rename_i n e hu
      split at hc
      · have hn : sizeT E.P e = some 1 := by assumption
        simp only [Option.map_eq_some_iff] at hc
        obtain ⟨p, hp, rfl⟩ := hc
        exact sliceLoc_sound hE nm ho hf hop hu hn hp hs hk
      · simp at hc
    · simp at hc
  · rename_i op t x y t' hop
    split at hc
    · rename_i hop2
      split at hc
      · rename_i agg ks ht
        simp only [Option.bind_eq_some_iff, Option.map_eq_some_iff] at hc
        obtain ⟨p, hp, q, hq, rfl⟩ := hc
        exact eq_sound hE rfl nm ho hf hop hop2 ht hp hq hs hk
      · simp only [Option.bind_eq_some_iff, Option.map_eq_some_iff] at hc
        obtain ⟨p, hp, q, hq, rfl⟩ := hc
        exact bin_sound hE nm ho hf hop hp hq hs hk
      · simp at hc
    · simp only [Option.bind_eq_some_iff, Option.map_eq_some_iff] at hc
      obtain ⟨p, hp, q, hq, rfl⟩ := hc
      exact bin_sound hE nm ho hf hop hp hq hs hk
  · rename_i op t x hop
    simp only [Option.map_eq_some_iff] at hc
    obtain ⟨p, hp, rfl⟩ := hc
    exact un_sound hE nm ho hf hop hp hs hk
  · rename_i s t x hop
    split at hc
    · rename_i k' k hu hu'
      simp only [Option.map_eq_some_iff] at hc
      obtain ⟨p, hp, rfl⟩ := hc
      exact convInt_sound hE nm ho hf hop hu hu' hp hs hk
    · rename_i hu hu'
      simp only [Option.map_eq_some_iff] at hc
      obtain ⟨p, hp, rfl⟩ := hc
      exact movs_sound hE nm ho hf hop hu hu' hp hs hk
    · rename_i e hu hu'
      split at hc
      · rename_i he
        split at hc
        · simp at hc
        · rename_i hnd
          have hnd' : cDst vs o.dst ≠ .n := by intro e; rw [e] at hnd; simp [isN] at hnd
          simp only [Option.map_eq_some_iff] at hc
          obtain ⟨p, hp, rfl⟩ := hc
          exact s2b_sound hE nm ho hf hop hnd' hu hu' he hp hs hk
      · simp at hc
    · rename_i e hu hu'
      split at hc
      · rename_i he
        simp only [Option.map_eq_some_iff] at hc
        obtain ⟨p, hp, rfl⟩ := hc
        exact b2s_sound hE nm ho hf hop hu he hu' hp hs hk
      · simp at hc
    · simp at hc
  · rename_i x i hop
    simp only [Option.map_eq_some_iff] at hc
    obtain ⟨p, hp, rfl⟩ := hc
    exact extract_sound hE nm ho hf hop hp hs hk
  · rename_i b args ts hop
    split at hc
    · simp at hc
    · rename_i hnd
      have hnd' : cDst vs o.dst ≠ .n := by intro e; rw [e] at hnd; simp [isN] at hnd
      obtain ⟨args⟩ := args
      obtain ⟨ts⟩ := ts
      unfold cBuiltin at hc
      split at hc
      · rename_i x t rest hb hargs hts
        simp only at hargs hts
        subst hargs hts
        split at hc
        · rename_i hu
          simp only [Option.map_eq_some_iff] at hc
          obtain ⟨p, hp, rfl⟩ := hc
          exact len_sound hE nm ho hf hop rfl (str := true) (by simpa using hu) hp hs hk
        · rename_i e hu
          simp only [Option.map_eq_some_iff] at hc
          obtain ⟨p, hp, rfl⟩ := hc
          exact len_sound hE nm ho hf hop rfl (str := false) (by simpa using ⟨e, hu⟩) hp hs hk
        · simp at hc
      · simp only [Option.map_eq_some_iff] at hc
        obtain ⟨p, hp, rfl⟩ := hc
        exact mm_sound (mx := false) hE nm ho hf hop hp hs hk
      · simp only [Option.map_eq_some_iff] at hc
        obtain ⟨p, hp, rfl⟩ := hc
        exact mm_sound (mx := true) hE nm ho hf hop hp hs hk
      · rename_i s x t1 t2 hb hargs hts
        simp only at hargs hts
        subst hargs hts
        split at hc
        · rename_i e e' hu hu'
          split at hc
          · rename_i size z hn hz
            simp only [Option.bind_eq_some_iff, Option.map_eq_some_iff] at hc
            obtain ⟨p, hp, q, hq, rfl⟩ := hc
            exact append_sound hE nm ho hf hop hnd' hu hu' hn hz hp hq hs hk
          · simp at hc
        · rename_i e hu hu'
          split at hc
          · rename_i z he hn hz hb1
            simp only [Option.bind_eq_some_iff, Option.map_eq_some_iff] at hc
            obtain ⟨p, hp, q, hq, rfl⟩ := hc
            exact appstr_sound hE nm ho hf hop hnd' hu hu' hn hz hb1 hp hq hs hk
          · simp at hc
        · simp at hc
      · simp at hc
  · rename_i f args ts hop
    simp only [Option.bind_eq_some_iff, Option.map_eq_some_iff] at hc
    obtain ⟨k, hk', ps, hps, rfl⟩ := hc
    exact pcall_sound hF hE nm ho hf hcf hcL hop hk' hps hs hk
  · rename_i t args ts hop
    simp only [Option.bind_eq_some_iff, Option.map_eq_some_iff] at hc
    obtain ⟨p, hp, ps, hps, rfl⟩ := hc
    exact callv_sound hF hE nm ho hf hcf hcL hop hp hps hs hk
  · simp at hc

end
end PI
