/-
  The pure interpreter is right, 9: calls; every operation.
-/
import Derived.Test.YtkpdipgfakdgcaaPiSound8
set_option linter.unusedSimpArgs false
set_option linter.unusedVariables false
namespace PI
open Go Go.RowKit

theorem refFrees_get : ∀ {ps : List PV}, refFrees ps = true → ∀ p ∈ ps, refFree p = true
  | [], _, p, hp => by simp at hp
  | x :: xs, h, p, hp => by
    simp only [refFrees, Bool.and_eq_true] at h
    rcases List.mem_cons.1 hp with rfl | hp
    · exact h.1
    · exact refFrees_get h.2 p hp

theorem refFree_cells {p : PV} (h : refFree p = true) : ∀ x ∈ p.cells, refFree x = true := by
  intro x hx
  cases p <;> simp only [PV.cells, List.mem_singleton] at hx <;> first | (subst hx; exact h) | (simp at hx; done) | skip
  exact refFrees_get (by simpa [refFree] using h) x hx

/-- What holds no address of the shared heap reads anywhere. -/
theorem VR.free {N : Nm} {w : World} {fix : Nat → Nat → Prop} {hp hp' : Nat → Option Nat} {v : Value} {p : PV} (h : VR N w fix hp v p) (hr : refFree p = true) : VR N w fix hp' v p := by
  induction h with
  | bool b => exact .bool b
  | int k n => exact .int k n
  | str s => exact .str s
  | nils own => exact .nils own
  | void own a cap => exact .void own a cap
  | list own b off len cap sz es cv hlen hcap hsz hflat hcell _ ih =>
    refine .list own b off len cap sz es cv hlen hcap hsz hflat hcell (fun i e he j x hx => ih i e he j x hx ?_)
    have := refFrees_get (by simpa [refFree] using hr) e (List.mem_of_getElem? he)
    exact refFree_cells this x (List.mem_of_getElem? hx)
  | agg cs ps hlen hflat _ ih => exact .agg cs ps hlen hflat (fun i c p hc hp => ih i c p hc hp (refFrees_get (by simpa [refFree] using hr) p (List.mem_of_getElem? hp)))
  | tuple cs ps hlen _ ih => exact .tuple cs ps hlen (fun i c p hc hp => ih i c p hc hp (refFrees_get (by simpa [refFree] using hr) p (List.mem_of_getElem? hp)))
  | nilptr => exact .nilptr
  | cptr b off ps cv hflat hcell _ ih => exact .cptr b off ps cv hflat hcell (fun k x hx => ih k x hx (refFrees_get (by simpa [refFree] using hr) x (List.mem_of_getElem? hx)))
  | ptr n off b h => simp [refFree] at hr
  | mapn => exact .mapn
  | map n b h => simp [refFree] at hr
  | func k fs cs pf pc h1 h2 _ _ ihf ihc =>
    simp only [refFree, Bool.and_eq_true] at hr
    exact .func k fs cs pf pc h1 h2 (fun i c p hc hp => ihf i c p hc hp (refFrees_get hr.1 p (List.mem_of_getElem? hp))) (fun i c p hc hp => ihc i c p hc hp (refFrees_get hr.2 p (List.mem_of_getElem? hp)))
  | nilfunc => exact .nilfunc
  | iface t v p _ ih => exact .iface t v p (ih (by simpa [refFree] using hr))
  | nilIface => exact .nilIface

theorem VR.cp_dem {N : Nm} {w : World} {fix : Nat → Nat → Prop} {hp : Nat → Option Nat} {v : Value} {p : PV} (h : VR N w fix hp v p) : cp (PI.dem p) = some (PI.dem p) := by
  cases h <;> rfl

/-- What a call of the library's function k comes to. -/
def CallOK (N : Nm) (P : Program) (cf : CallF) : Prop :=
  ∀ (k : Nat) (args : List PV) (r : PV) (h' : List PObj), cf k args [] = some (r, h') → ∀ (w : World) (fix : Nat → Nat → Prop) (vals : Array Value), (∀ b o, fix b o → b < w.heap.size) → vals.size = args.length →
    (∀ (i : Nat) (v : Value) (p : PV), vals[i]? = some v → args[i]? = some p → VR N w fix (fun _ => none) v p) →
    Calls P (N.fn k) vals w fun e w' => ∃ v fix' hp', e = .returned v ∧ VR N w' fix' hp' v r ∧ Below w.heap.size w w' ∧ (∀ b o, fix b o → fix' b o) ∧ (∀ b o, fix' b o → fix b o ∨ w.heap.size ≤ b) ∧ (∀ b o, fix' b o → b < w'.heap.size)

/-- The functions of the library stand in the program. -/
def FnsOK (N : Nm) (P : Program) (L : Nat → Option PFunc) : Prop :=
  ∀ k f, L k = some f → ∃ fn, P.funcs[N.fn k]? = some fn ∧ fn.name ≠ "runtime.NumGoroutine" ∧ fn.body.isNone = false

section
variable {E : Env} {N : Nm} {w : World} {G : GS} {st : St} {a : Act} {vs : List Tmp} {ops : List Oper} {P : Program}
variable {o : Oper} {j : Nat} {next : Act → World → Prop} {Q : Exit → Act → World → Prop} {u : PV} {st1 : St}

theorem run_callFunc {L : Nat → Option PFunc} (hF : FnsOK N P L) {k : Nat} {f : PFunc} (hL : L k = some f) (args : Array Value) (w : World) : (callFunc (N.fn k) args).run P w = .ok (.enter (N.fn k) args) w := by
  obtain ⟨fn, h1, h2, h3⟩ := hF k f hL
  have h2' : (fn.name == "runtime.NumGoroutine") = false := by simpa using h2
  simp only [callFunc, Sem.run_bind, run_program, Result.andThen_ok, h1, h2', h3, Bool.false_eq_true, if_false, Sem.run_pure]

/-- The end of a call, for the caller. -/
theorem called_sound (nm : Names vs (lmap vs ops)) (ho : ops[j]? = some o) (hf : FI N w G st a vs (lmap vs ops)) {cf : CallF} (hcf : CallOK N P cf) {k : Nat} {args : List PV} {vals : Array Value} {r : PV} {h' : List PObj}
    (hsz : vals.size = args.length) (hv : ∀ (i : Nat) (v : Value) (p : PV), vals[i]? = some v → args[i]? = some p → VR N w G.fix G.heap v p) (hfree : refFrees args = true) (hc : cf k args [] = some (r, h')) (hr : refFree r = true)
    (hrun : (execOp a.eval o).run P w = .ok (.enter (N.fn k) vals) w) (hk : Goes N w G a st (dem r) vs ops j o next) : o.wp P a w next Q := by
  unfold Oper.wp
  rw [hrun]
  refine (hcf k args r h' hc w G.fix vals hf.fixlt hsz (fun i v p h1 h2 => (hv i v p h1 h2).free (refFrees_get hfree p (List.mem_of_getElem? h2)))).mono ?_
  rintro e w' ⟨v, fix', hp', rfl, hvr, hb, hfx, hnew, hlt⟩
  let G' : GS := { G with fix := fix' }
  have hcell : ∀ b o, b < w.heap.size → w'.cell? ⟨b, o, none⟩ = w.cell? ⟨b, o, none⟩ := fun b o h => hb.cell (p := ⟨b, o, none⟩) h
  have hext : Ext w G w' G' := by
    refine ⟨hb.os, hb.tape, hb.output, hb.size, fun b hlt _ => hb.block b hlt, fun b o h => ⟨hfx b o h, hcell b o (hf.fixlt b o h)⟩, ?_, fun _ h => .inr h, fun _ _ h => h⟩
    intro b o h
    rcases hnew b o h with h | h
    · exact .inl h
    · exact .inr (.inl h)
  have hkeep : Keep (fun _ => False) w G w' G' := by
    refine ⟨?_, fun _ _ h => h⟩
    intro b key hb' _
    have hlt' := hf.owlt _ _ hb'
    refine ⟨hb', hb.block b hlt', ?_⟩
    intro o h
    rcases hnew b o h with h | h
    · exact h
    · omega
  have hf1 := hf.ext (G' := G') hext hkeep hf.gen (fun b key h => Nat.lt_of_lt_of_le (hf.owlt b key h) hb.size) hlt
  have hvr' : VR N w' G'.fix G'.heap v (dem r) := (hvr.free hr).dem
  exact hk _ _ G' (hf1.put nm (cDst_ok ho) (SR.of_pure hvr' hvr.cp_dem)) hext (put_size _ _ _)

theorem vals_of {xs : Array Operand} {us : List PV} (h1 : xs.toList.length = us.length) (h2 : ∀ (i : Nat) (x : Operand) (u : PV), xs.toList[i]? = some x → us[i]? = some u → VR N w G.fix G.heap (a.eval x) u ∧ cp u = some u) :
    (xs.map a.eval).size = us.length ∧ ∀ (i : Nat) (v : Value) (p : PV), (xs.map a.eval)[i]? = some v → us[i]? = some p → VR N w G.fix G.heap v p := by
  refine ⟨by simpa using h1, ?_⟩
  intro i v p hv hp
  simp only [Array.getElem?_map, Option.map_eq_some_iff] at hv
  obtain ⟨x, hx, rfl⟩ := hv
  exact (h2 i x p (by simpa using hx) hp).1

theorem pcall_sound {L : Nat → Option PFunc} (hF : FnsOK N P L) (hE : EnvOk E N) (nm : Names vs (lmap vs ops)) (ho : ops[j]? = some o) (hf : FI N w G st a vs (lmap vs ops)) {cf : CallF} (hcf : CallOK N P cf) (hcL : ∀ k args h r, cf k args h = some r → ∃ f, L k = some f)
    {f : FuncId} {k : Nat} {xs : Array Operand} {ts : Array TypeId} {pxs : List PX} (hop : o.op = .call { callee := .value (.func f), args := xs, argTypes := ts }) (hk' : E.inv f = some k) (hx : cxs E vs ops xs.toList = some pxs)
    (hs : opv cf (.pcall k pxs) st = some (u, st1)) (hk : Goes N w G a st1 u vs ops j o next) : o.wp P a w next Q := by
  simp only [opv] at hs
  split at hs
  · rename_i us hus
    split at hs
    · rename_i hfree
      split at hs
      · rename_i r h' hc
        split at hs
        · rename_i hr
          simp only [Option.some.injEq, Prod.mk.injEq] at hs
          obtain ⟨rfl, rfl⟩ := hs
          obtain ⟨h1, h2⟩ := rdAll_sound hE hf hx hus
          obtain ⟨g1, g2⟩ := vals_of (w := w) (G := G) h1 h2
          obtain ⟨pf, hL⟩ := hcL _ _ _ _ hc
          have hfn := hE.fn _ _ hk'
          refine called_sound nm ho hf hcf g1 g2 hfree hc hr ?_ hk
          have := run_callFunc hF hL (xs.map a.eval) w
          rw [hfn] at this
          rw [hfn]
          simp [execOp, hop, resolve, Act.eval, Deferred.ofValue, invoke]
          exact this
        · simp at hs
      · simp at hs
    · simp at hs
  · simp at hs

theorem callv_sound {L : Nat → Option PFunc} (hF : FnsOK N P L) (hE : EnvOk E N) (nm : Names vs (lmap vs ops)) (ho : ops[j]? = some o) (hf : FI N w G st a vs (lmap vs ops)) {cf : CallF} (hcf : CallOK N P cf) (hcL : ∀ k args h r, cf k args h = some r → ∃ f, L k = some f)
    {t : Tmp} {px : PX} {xs : Array Operand} {ts : Array TypeId} {pxs : List PX} (hop : o.op = .call { callee := .value (.tmp t), args := xs, argTypes := ts }) (hpx : cx E vs ops (.tmp t) = some px) (hx : cxs E vs ops xs.toList = some pxs)
    (hs : opv cf (.callv px pxs) st = some (u, st1)) (hk : Goes N w G a st1 u vs ops j o next) : o.wp P a w next Q := by
  simp only [opv] at hs
  split at hs
  · rename_i k first captured us hfv hus
    split at hs
    · rename_i hfree
      split at hs
      · rename_i r h' hc
        split at hs
        · rename_i hr
          simp only [Option.some.injEq, Prod.mk.injEq] at hs
          obtain ⟨rfl, rfl⟩ := hs
          obtain ⟨h1, h2⟩ := rdAll_sound hE hf hx hus
          obtain ⟨g1, g2⟩ := vals_of (w := w) (G := G) h1 h2
          obtain ⟨pf, hL⟩ := hcL _ _ _ _ hc
          have hfun := (rd_sound hE hpx hf hfv).1
          generalize hv : a.eval (.tmp t) = v at hfun
          cases hfun with
          | func _ fs cs _ _ e1 e2 hfs hcs =>
            refine called_sound (vals := fs ++ xs.map a.eval ++ cs) nm ho hf hcf (by simp [e1, e2]; simpa using h1) ?_ hfree hc hr ?_ hk
            · intro i v p hv' hp
              by_cases hi : i < fs.size
              · rw [Array.append_assoc, Array.getElem?_append_left hi] at hv'
                rw [List.append_assoc, List.getElem?_append_left (by omega)] at hp
                exact hfs i v p hv' hp
              · rw [Array.append_assoc, Array.getElem?_append_right (by omega)] at hv'
                rw [List.append_assoc, List.getElem?_append_right (by omega), ← e1] at hp
                by_cases hi2 : i - fs.size < (xs.map a.eval).size
                · rw [Array.getElem?_append_left hi2] at hv'
                  rw [List.getElem?_append_left (by omega)] at hp
                  exact g2 _ v p hv' hp
                · rw [Array.getElem?_append_right (by omega)] at hv'
                  rw [List.getElem?_append_right (by omega), ← g1] at hp
                  exact hcs _ v p hv' hp
            · have := run_callFunc hF hL (fs ++ xs.map a.eval ++ cs) w
              simp only [execOp, hop, resolve, Sem.run_bind, hv, Deferred.ofValue, Sem.run_pure, Result.andThen_ok, invoke]
              exact this
        · simp at hs
      · simp at hs
    · simp at hs
  · simp at hs

/-- Every operation. -/
theorem op_sound {L : Nat → Option PFunc} (hF : FnsOK N P L) (hE : EnvOk E N) (hP : E.P = P) (nm : Names vs (lmap vs ops)) (ho : ops[j]? = some o) (hf : FI N w G st a vs (lmap vs ops)) {cf : CallF} (hcf : CallOK N P cf)
    (hcL : ∀ k args h r, cf k args h = some r → ∃ f, L k = some f) {po : POp} (hc : cOp E vs ops o = some po) (hs : opv cf po st = some (u, st1)) (hk : Goes N w G a st1 u vs ops j o next) : o.wp P a w next Q := by
  subst hP
  unfold cOp at hc
  split at hc
  · -- move
    rename_i x hop
    simp only [Option.map_eq_some_iff] at hc
    obtain ⟨p, hp, rfl⟩ := hc
    split at hs
    · exact take_sound hE nm ho hf (by simp [execOp, hop]) hp (by simpa [opv] using hs) hk
    · exact mov_sound hE nm ho hf (by simp [execOp, hop]) hp (by simpa [opv] using hs) hk
  · rename_i x hop
    simp only [Option.map_eq_some_iff] at hc
    obtain ⟨p, hp, rfl⟩ := hc
    exact take_sound hE nm ho hf (by simp [execOp, hop]) hp (by simpa [opv] using hs) hk
  · rename_i x y z hop
    simp only [Option.bind_eq_some_iff, Option.map_eq_some_iff] at hc
    obtain ⟨px, hpx, pa, hpa, pb, hpb, rfl⟩ := hc
    exact pick_sound hE nm ho hf hop hpx hpa hpb hs hk
  · rename_i t hop
    split at hc
    · rename_i hv
      simp only [Option.map_eq_some_iff] at hc
      obtain ⟨z, hz, rfl⟩ := hc
      exact newloc_sound nm ho hf hop hz hv hs hk
    · simp at hc
  · rename_i t x hop
    split at hc
    · rename_i hv
      simp only [Option.bind_eq_some_iff, Option.map_eq_some_iff] at hc
      obtain ⟨n, hn, p, hp, rfl⟩ := hc
      exact boxloc_sound hE nm ho hf hop hn hp hv hs hk
    · simp at hc
  · rename_i t parts hop
    split at hc
    · rename_i fs z hu hz
      split at hc
      · rename_i places hpl
        simp only [Option.map_eq_some_iff] at hc
        obtain ⟨ps, hps, rfl⟩ := hc
        exact build_sound hE nm ho hf hop hu hz hpl hps hs hk
      · simp at hc
    · simp at hc
  · rename_i t len parts hop
    split at hc
    · rename_i e hu
      split at hc
      · rename_i size z hn hz
        split at hc
        · rename_i hlen
          simp only [Option.map_eq_some_iff] at hc
          obtain ⟨ps, hps, rfl⟩ := hc
          exact mkslice_sound hE nm ho hf hop hu hn hz hlen hps hs hk
        · simp at hc
      · simp at hc
    · simp at hc
  · rename_i t x hop
    simp only [Option.bind_eq_some_iff, Option.map_eq_some_iff] at hc
    obtain ⟨n, hn, p, hp, rfl⟩ := hc
    exact load_sound hE nm ho hf hop hn hp hs hk
  · rename_i t x y hop
    split at hc
    · rename_i hd
      simp only [Option.bind_eq_some_iff, Option.map_eq_some_iff] at hc
      obtain ⟨n, hn, p, hp, q, hq, rfl⟩ := hc
      exact store_sound hE nm ho hf hop hd hn hp hq hs hk
    · simp at hc
  · rename_i s x f hop
    split at hc
    · rename_i fs hu
      split at hc
      · rename_i fd hfd
        simp only [Option.bind_eq_some_iff, Option.map_eq_some_iff] at hc
        obtain ⟨n, hn, p, hp, rfl⟩ := hc
        exact faddr_sound hE nm ho hf hop hu hfd hn hp hs hk
      · simp at hc
    · simp at hc
  · rename_i t x i hop
    split at hc
    · rename_i e hu
      simp only [Option.bind_eq_some_iff, Option.map_eq_some_iff] at hc
      obtain ⟨n, hn, p, hp, q, hq, rfl⟩ := hc
      exact iaddrS_sound hE nm ho hf hop hu hn hp hq hs hk
    · rename_i len e hu
      simp only [Option.bind_eq_some_iff, Option.map_eq_some_iff] at hc
      obtain ⟨n, hn, p, hp, q, hq, rfl⟩ := hc
      exact iaddrA_sound hE nm ho hf hop hu hn hp hq hs hk
    · simp at hc
  · rename_i t x f hop
    split at hc
    · rename_i fs hu
      split at hc
      · rename_i fd hfd
        simp only [Option.bind_eq_some_iff, Option.map_eq_some_iff] at hc
        obtain ⟨n, hn, p, hp, rfl⟩ := hc
        exact field_sound hE nm ho hf hop hu hfd hn hp hs hk
      · simp at hc
    · simp at hc
  · rename_i t x i hop
    split at hc
    · rename_i hu
      simp only [Option.bind_eq_some_iff, Option.map_eq_some_iff] at hc
      obtain ⟨p, hp, q, hq, rfl⟩ := hc
      exact indexStr_sound hE nm ho hf hop hu hp hq hs hk
    · simp at hc
  · rename_i t x lo hi hop
    split at hc
    · rename_i hu
      simp only [Option.bind_eq_some_iff, Option.map_eq_some_iff] at hc
      obtain ⟨p, hp, pl, hl, ph, hh, rfl⟩ := hc
      exact sliceS_sound hE nm ho hf hop hu hp hl hh hs hk
    · rename_i e hu
      simp only [Option.bind_eq_some_iff, Option.map_eq_some_iff] at hc
      obtain ⟨n, hn, p, hp, pl, hl, ph, hh, rfl⟩ := hc
      exact sliceL_sound hE nm ho hf hop hu hn hp hl hh hs hk
    · rename_i n e hu
      split at hc
      · have hn : sizeT E.P e = some 1 := by assumption
        simp only [Option.map_eq_some_iff] at hc
        obtain ⟨p, hp, rfl⟩ := hc
        exact sliceLoc_sound hE nm ho hf hop hu hn hp hs hk
      · simp at hc
    · simp at hc
  · rename_i op t x y t' hop
    split at hc
    · rename_i hop2
      split at hc
      · rename_i agg ks ht
        simp only [Option.bind_eq_some_iff, Option.map_eq_some_iff] at hc
        obtain ⟨p, hp, q, hq, rfl⟩ := hc
        exact eq_sound hE rfl nm ho hf hop hop2 ht hp hq hs hk
      · simp only [Option.bind_eq_some_iff, Option.map_eq_some_iff] at hc
        obtain ⟨p, hp, q, hq, rfl⟩ := hc
        exact bin_sound hE nm ho hf hop hp hq hs hk
      · simp at hc
    · simp only [Option.bind_eq_some_iff, Option.map_eq_some_iff] at hc
      obtain ⟨p, hp, q, hq, rfl⟩ := hc
      exact bin_sound hE nm ho hf hop hp hq hs hk
  · rename_i op t x hop
    simp only [Option.map_eq_some_iff] at hc
    obtain ⟨p, hp, rfl⟩ := hc
    exact un_sound hE nm ho hf hop hp hs hk
  · rename_i s t x hop
    split at hc
    · rename_i k' k hu hu'
      simp only [Option.map_eq_some_iff] at hc
      obtain ⟨p, hp, rfl⟩ := hc
      exact convInt_sound hE nm ho hf hop hu hu' hp hs hk
    · rename_i hu hu'
      simp only [Option.map_eq_some_iff] at hc
      obtain ⟨p, hp, rfl⟩ := hc
      exact movs_sound hE nm ho hf hop hu hu' hp hs hk
    · simp at hc
  · rename_i x i hop
    simp only [Option.map_eq_some_iff] at hc
    obtain ⟨p, hp, rfl⟩ := hc
    exact extract_sound hE nm ho hf hop hp hs hk
  · rename_i b args ts hop
    split at hc
    · simp at hc
    · rename_i hnd
      have hnd' : cDst vs o.dst ≠ .n := by intro e; rw [e] at hnd; simp [isN] at hnd
      obtain ⟨args⟩ := args
      obtain ⟨ts⟩ := ts
      unfold cBuiltin at hc
      split at hc
      · rename_i x t rest hb hargs hts
        simp only at hargs hts
        subst hargs hts
        split at hc
        · rename_i hu
          simp only [Option.map_eq_some_iff] at hc
          obtain ⟨p, hp, rfl⟩ := hc
          exact len_sound hE nm ho hf hop rfl (str := true) (by simpa using hu) hp hs hk
        · rename_i e hu
          simp only [Option.map_eq_some_iff] at hc
          obtain ⟨p, hp, rfl⟩ := hc
          exact len_sound hE nm ho hf hop rfl (str := false) (by simpa using ⟨e, hu⟩) hp hs hk
        · simp at hc
      · simp only [Option.map_eq_some_iff] at hc
        obtain ⟨p, hp, rfl⟩ := hc
        exact mm_sound (mx := false) hE nm ho hf hop hp hs hk
      · simp only [Option.map_eq_some_iff] at hc
        obtain ⟨p, hp, rfl⟩ := hc
        exact mm_sound (mx := true) hE nm ho hf hop hp hs hk
      · rename_i s x t1 t2 hb hargs hts
        simp only at hargs hts
        subst hargs hts
        split at hc
        · rename_i e e' hu hu'
          split at hc
          · rename_i size z hn hz
            simp only [Option.bind_eq_some_iff, Option.map_eq_some_iff] at hc
            obtain ⟨p, hp, q, hq, rfl⟩ := hc
            exact append_sound hE nm ho hf hop hnd' hu hu' hn hz hp hq hs hk
          · simp at hc
        · simp at hc
      · simp at hc
  · rename_i f args ts hop
    simp only [Option.bind_eq_some_iff, Option.map_eq_some_iff] at hc
    obtain ⟨k, hk', ps, hps, rfl⟩ := hc
    exact pcall_sound hF hE nm ho hf hcf hcL hop hk' hps hs hk
  · rename_i t args ts hop
    simp only [Option.bind_eq_some_iff, Option.map_eq_some_iff] at hc
    obtain ⟨p, hp, ps, hps, rfl⟩ := hc
    exact callv_sound hF hE nm ho hf hcf hcL hop hp hps hs hk
  · simp at hc

end
end PI
