import Derived.Test.YtljbhgpanekomaaGreatDoorPiSoundH2
import Derived.Orders
import Derived.LoopN
import Derived.Test.YtljbhgpanekomaaGreatDoorPiOrd
import Derived.RangeFuncLeaves
import Derived.RangeFuncIn
import Derived.LoopNIn
import Derived.OrdersIn
set_option linter.unusedSimpArgs false
set_option linter.unusedVariables false
namespace PI
open Go Go.RowKit
theorem refFrees_get : ∀ {ps : List PV}, refFrees ps = true → ∀ p ∈ ps, refFree p = true
 | [], _, p, hp => by simp at hp
 | x :: xs, h, p, hp => by
   simp only [refFrees, Bool.and_eq_true] at h
   rcases List.mem_cons.1 hp with rfl | hp
   ·exact h.1
   ·exact refFrees_get h.2 p hp
theorem refFree_cells {p : PV} (h : refFree p = true) : ∀ x ∈ p.cells, refFree x = true := by
 intro x hx
 cases p <;> simp only [PV.cells, List.mem_singleton] at hx <;> first | (subst hx; exact h) | (simp at hx; done) | skip
 exact refFrees_get (by simpa [refFree] using h) x hx
theorem VR.free {N : Nm} {w : World} {fix : Nat → Nat → Prop} {hp hp' : Nat → Option Nat} {v : Value} {p : PV} (h : VR N w fix hp v p) (hr : refFree p = true) : VR N w fix hp' v p := by
 induction h with
 | bool b => exact .bool b
 | int k n => exact .int k n
 | str s => exact .str s
 | nils own => exact .nils own
 | void own a cap => exact .void own a cap
 | nils' => exact .nils'
 | void' a cap => exact .void' a cap
 | list own b off len cap sz es cv hlen hcap hsz hflat hcell _ ih =>
   refine .list own b off len cap sz es cv hlen hcap hsz hflat hcell (fun i e he j x hx => ih i e he j x hx ?_)
   have := refFrees_get (by simpa [refFree] using hr) e (List.mem_of_getElem? he)
   exact refFree_cells this x (List.mem_of_getElem? hx)
 | agg cs ps hlen hflat hown _ ih => exact .agg cs ps hlen hflat hown (fun i c p hc hp => ih i c p hc hp (refFrees_get (by simpa [refFree] using hr) p (List.mem_of_getElem? hp)))
 | tuple cs ps hlen _ ih => exact .tuple cs ps hlen (fun i c p hc hp => ih i c p hc hp (refFrees_get (by simpa [refFree] using hr) p (List.mem_of_getElem? hp)))
 | nilptr => exact .nilptr
 | cptr b off ps cv hflat hcell _ ih => exact .cptr b off ps cv hflat hcell (fun k x hx => ih k x hx (refFrees_get (by simpa [refFree] using hr) x (List.mem_of_getElem? hx)))
 | ptr n off b h => simp [refFree] at hr
 | rowp n sz agg len b cap h hcap hsh => simp [refFree] at hr
 | rows n sz agg off len b o cap m T h hcap ho hsh hm => simp [refFree] at hr
 | mapn => exact .mapn
 | map n b h => simp [refFree] at hr
 | yield k n l y tmps caps h0 hl hr0 hlen _ _ _ => simp [refFree, refFrees] at hr
 | func k fs cs pf pc h0 h1 h2 _ _ ihf ihc =>
   simp only [refFree, Bool.and_eq_true] at hr
   exact .func k fs cs pf pc h0 h1 h2 (fun i c p hc hp => ihf i c p hc hp (refFrees_get hr.1 p (List.mem_of_getElem? hp))) (fun i c p hc hp => ihc i c p hc hp (refFrees_get hr.2 p (List.mem_of_getElem? hp)))
 | nilfunc => exact .nilfunc
 | iface t v p _ ih => exact .iface t v p (ih (by simpa [refFree] using hr))
 | nilIface => exact .nilIface
theorem VR.cp_dem {N : Nm} {w : World} {fix : Nat → Nat → Prop} {hp : Nat → Option Nat} {v : Value} {p : PV} (h : VR N w fix hp v p) : cp (PI.dem p) = some (PI.dem p) := by
 cases h <;> rfl
structure HeapOnly (G : GS) : Prop where
 ow : ∀ b k, G.ow b = some k → k.isH = true
 box : ∀ g, G.box g = none
structure Between (N : Nm) (w : World) (G : GS) (h : List PObj) : Prop where
 only : HeapOnly G
 fixlt : ∀ b o, G.fix b o → b < w.heap.size
 owlt : ∀ b k, G.ow b = some k → b < w.heap.size
 heap : HR N w G h
 hdom : ∀ n b, G.heap n = some b → n < h.length
def Spare (w0 : World) (G0 : GS) (w : World) (G : GS) (v : Value) (es : List PV) : Prop :=
 match v with
 | .slice (some a) len cap => cap = len ∨
   ((w0.heap.size ≤ a.block ∨ G0.ow a.block ≠ none) ∧ ∃ sz cs T, (∀ e ∈ es, e.cells.length = sz) ∧ Live w a.block cs T ∧ a.off + cap * sz ≤ cs.size ∧
     0 < len ∧ ∀ o, a.off + len * sz ≤ o → ¬ G.fix a.block o)
 | _ => True
structure OwnIn (N : Nm) (w : World) (G : GS) (own : Option Nat) (args : List PV) (vals : Array Value) : Prop where
 ow : ∀ b k, G.ow b = some k → ∃ i, own = some i ∧ k = .var i
 box : ∀ g, G.box g = none
 heap : ∀ n, G.heap n = none
 fixlt : ∀ b o, G.fix b o → b < w.heap.size
 owlt : ∀ b k, G.ow b = some k → b < w.heap.size
 tab : Tab N w G.fix
 size : vals.size = args.length
 vr : ∀ (i : Nat) (v : Value) (p : PV), vals[i]? = some v → args[i]? = some p → VR N w G.fix G.heap v p
 room : ∀ (i : Nat) (v : Value) (es : List PV), own = some i → vals[i]? = some v → args[i]? = some (.list true es) → Room w G (.var i) v es
def OwnOK (N : Nm) (P : Program) (cf : CallF) : Prop :=
 ∀ (k : Nat) (own : Option Nat) (args : List PV) (r : PV) (h' : List PObj), cf k (ownArgs own args) [] = some (r, h') → N.yl k = none ∧ ∀ (w : World) (G : GS) (vals : Array Value), OwnIn N w G own args vals →
   Calls P (N.fn k) vals w fun e w' => ∃ v G', e = .returned v ∧ VR N w' G'.fix G'.heap v r ∧ Ext w G w' G' ∧ (∀ b o, G'.fix b o → b < w'.heap.size) ∧ ∀ es, r = .list true es → Spare w G w' G' v es
def PlainOK (N : Nm) (P : Program) (cf : CallF) : Prop :=
 ∀ (k : Nat) (args : List PV) (r : PV) (h h' : List PObj), cf k args h = some (r, h') → N.yl k = none ∧ ∀ (w : World) (G : GS) (vals : Array Value), Between N w G h → vals.size = args.length →
   (∀ (i : Nat) (v : Value) (p : PV), vals[i]? = some v → args[i]? = some p → VR N w G.fix G.heap v p) →
   Calls P (N.fn k) vals w fun e w' => ∃ v G', e = .returned v ∧ VR N w' G'.fix G'.heap v r ∧ Ext w G w' G' ∧ Between N w' G' h'
structure CallOK (N : Nm) (P : Program) (cf : CallF) : Prop where
 plain : PlainOK N P cf
 own : OwnOK N P cf
theorem Room.sub {w : World} {G G' : GS} {key : Key} {v : Value} {es : List PV} (h : Room w G key v es) (hf : G'.fix = G.fix) (ho : ∀ b, G.ow b = some key → G'.ow b = some key) : Room w G' key v es := by
 unfold Room at *
 split at h
 ·rename_i a len cap
  rcases h with h | ⟨h1, sz, cs, T, h2, h3, h4, h5, h6⟩
  ·exact .inl h
  ·exact .inr ⟨ho _ h1, sz, cs, T, h2, h3, h4, h5, by rw [hf]; exact h6⟩
 ·trivial
theorem HR.sub {N : Nm} {w : World} {G G' : GS} {heap : List PObj} (h : HR N w G heap) (hf : G'.fix = G.fix) (hh : G'.heap = G.heap) (ho : ∀ b k, k.isH = true → G.ow b = some k → G'.ow b = some k) : HR N w G' heap := by
 refine ⟨?_, by rw [hf]; exact h.2⟩
 intro n ob hob
 rcases h.1 n ob hob with rfl | ⟨b, h1, h2, h3⟩
 ·exact .inl rfl
 refine .inr ⟨b, by rw [hh]; exact h1, ho _ _ rfl h2, ?_⟩
 cases ob with
 | cells cs =>
   obtain ⟨f, cv, T, a1, a2, a3⟩ := h3
   refine ⟨by rw [hf]; exact f, cv, T, a1, a2, ?_⟩
   intro k c x hc hx
   obtain ⟨b1, b2, b3⟩ := a3 k c x hc hx
   refine ⟨by rw [hf, hh]; exact b1, b2, ?_⟩
   split at b3
   ·exact b3.sub hf (fun b => ho b _ rfl)
   ·trivial
 | map es =>
   obtain ⟨mes, clock, a1, a2, a3, a4, a5⟩ := h3
   refine ⟨mes, clock, a1, a2, a3, a4, ?_⟩
   intro i e p hi hp
   obtain ⟨b1, b2, b3⟩ := a5 i e p hi hp
   refine ⟨by rw [hf, hh]; exact b1, by rw [hf, hh]; exact b2, ?_⟩
   split at b3
   ·exact b3.sub hf (fun b => ho b _ rfl)
   ·trivial
 | bld bs =>
   obtain ⟨f, p, v, a1, a2, a3⟩ := h3
   refine ⟨by rw [hf]; exact f, p, v, a1, a2, ?_⟩
   rcases a3 with a3 | ⟨g, cap, cur, b1, b2, b3, b4⟩
   ·exact .inl a3
   ·exact .inr ⟨g, cap, cur, b1, ho _ _ rfl b2, by rw [hf]; exact b3, b4⟩
 | siter s pos =>
   obtain ⟨f, s', a1, a2⟩ := h3
   exact ⟨by rw [hf]; exact f, s', a1, a2⟩
 | gone => trivial
 | loop ready =>
   obtain ⟨f, r, a1, a2⟩ := h3
   exact ⟨by rw [hf]; exact f, r, a1, a2⟩
 | over id =>
   obtain ⟨f, r, a1, a2⟩ := h3
   exact ⟨by rw [hf]; exact f, r, a1, a2⟩
def onlyH (ow : Nat → Option Key) (b : Nat) : Option Key :=
 match ow b with
 | some k => if k.isH then some k else none
 | none => none
theorem onlyH_some {ow : Nat → Option Key} {b : Nat} {k : Key} (h : onlyH ow b = some k) : ow b = some k ∧ k.isH = true := by
 unfold onlyH at h
 split at h
 ·split at h
  ·simp at h; subst h; exact ⟨by assumption, by assumption⟩
  ·simp at h
 ·simp at h
theorem onlyH_of {ow : Nat → Option Key} {b : Nat} {k : Key} (h : ow b = some k) (hk : k.isH = true) : onlyH ow b = some k := by
 simp [onlyH, h, hk]
def FnsOK (N : Nm) (P : Program) (L : Nat → Option PFunc) : Prop :=
 ∀ k f, L k = some f → ∃ fn, P.funcs[N.fn k]? = some fn ∧ fn.name ≠ "runtime.NumGoroutine" ∧ fn.body.isNone = false
section
variable {E : Env} {N : Nm} {w : World} {G : GS} {st : St} {a : Act} {vs : List Tmp} {ops : List Oper} {P : Program}
variable {o : Oper} {j : Nat} {next : Act → World → Prop} {Q : Exit → Act → World → Prop} {u : PV} {st1 : St}
theorem run_callFunc {L : Nat → Option PFunc} (hF : FnsOK N P L) {k : Nat} {f : PFunc} (hL : L k = some f) (args : Array Value) (w : World) : (callFunc (N.fn k) args).run P w = .ok (.enter (N.fn k) args) w := by
 obtain ⟨fn, h1, h2, h3⟩ := hF k f hL
 have h2' : (fn.name == "runtime.NumGoroutine") = false := by simpa using h2
 simp only [callFunc, Sem.run_bind, run_program, Result.andThen_ok, h1, h2', h3, Bool.false_eq_true, if_false, Sem.run_pure]
theorem called_sound (nm : Names vs (lmap vs ops)) (ho : ops[j]? = some o) (hf : FI N w G st a vs (lmap vs ops)) {cf : CallF} (hcf : CallOK N P cf) {k : Nat} {args : List PV} {vals : Array Value} {r : PV} {h' : List PObj}
  (hsz : vals.size = args.length) (hv : ∀ (i : Nat) (v : Value) (p : PV), vals[i]? = some v → args[i]? = some p → VR N w G.fix G.heap v p) (hfree : refFrees args = true) (hc : cf k args [] = some (r, h')) (hr : refFree r = true)
  (hrun : (execOp a.eval o).run P w = .ok (.enter (N.fn k) vals) w) (hk : Goes N w G a st (dem r) vs ops j o next) : o.wp P a w next Q := by
 unfold Oper.wp
 rw [hrun]
 let Gc : GS := { fix := G.fix, heap := fun _ => none, box := fun _ => none, ow := fun _ => none }
 have hbt : Between N w Gc [] := ⟨⟨by intro b k h; simp [Gc] at h, fun _ => rfl⟩, hf.fixlt, by intro b k h; simp [Gc] at h, ⟨by intro n ob h; simp at h, hf.heap.2⟩, by intro n b h; simp [Gc] at h⟩
 refine ((hcf.plain k args r [] h' hc).2 w Gc vals hbt hsz (fun i v p h1 h2 => (hv i v p h1 h2).free (refFrees_get hfree p (List.mem_of_getElem? h2)))).mono ?_
 rintro e w' ⟨v, G2, rfl, hvr, he, hb2⟩
 let G' : GS := { G with fix := G2.fix }
 have hblock : ∀ b, b < w.heap.size → w'.heap[b]? = w.heap[b]? := fun b hb => he.same b hb rfl
 have hnew : ∀ b o, G2.fix b o → G.fix b o ∨ w.heap.size ≤ b := by
  intro b o h
  rcases he.newfix b o h with h | h | h
  ·exact .inl h
  ·exact .inr h
  ·exact absurd rfl h
 have hext : Ext w G w' G' := by
  refine ⟨he.os, he.tape, he.output, he.size, fun b hlt _ => hblock b hlt, fun b o h => he.fix b o h, ?_, fun _ h => .inr h, fun _ _ h => h, he.shape, rfl⟩
  intro b o h
  rcases hnew b o h with h | h
  ·exact .inl h
  ·exact .inr (.inl h)
 have hkeep : Keep (fun _ => False) w G w' G' := by
  refine ⟨?_, fun _ _ h => h⟩
  intro b key hb' _
  have hlt' := hf.owlt _ _ hb'
  refine ⟨hb', hblock b hlt', ?_⟩
  intro o h
  rcases hnew b o h with h | h
  ·exact h
  ·omega
 have hf1 := hf.ext (G' := G') hext hkeep hf.gen (fun b key h => Nat.lt_of_lt_of_le (hf.owlt b key h) he.size) hb2.fixlt
 have hvr' : VR N w' G'.fix G'.heap v (dem r) := (hvr.free hr).dem
 exact hk _ _ G' (hf1.put nm (cDst_ok ho) (SR.of_pure hvr' hvr.cp_dem)) hext (put_size _ _ _)
theorem called_heap (nm : Names vs (lmap vs ops)) (ho : ops[j]? = some o) (hf : FI N w G st a vs (lmap vs ops)) {cf : CallF} (hcf : CallOK N P cf) {k : Nat} {args : List PV} {vals : Array Value} {r : PV} {h' : List PObj}
  (hsz : vals.size = args.length) (hv : ∀ (i : Nat) (v : Value) (p : PV), vals[i]? = some v → args[i]? = some p → VR N w G.fix G.heap v p) (hc : cf k args st.heap = some (r, h'))
  (hrun : (execOp a.eval o).run P w = .ok (.enter (N.fn k) vals) w) (hk : Goes N w G a { st with heap := h' } (dem r) vs ops j o next) : o.wp P a w next Q := by
 unfold Oper.wp
 rw [hrun]
 let Gc : GS := { fix := G.fix, heap := G.heap, box := fun _ => none, ow := onlyH G.ow }
 have hbt : Between N w Gc st.heap := ⟨⟨fun b k h => (onlyH_some h).2, fun _ => rfl⟩, hf.fixlt, fun b k h => hf.owlt b k (onlyH_some h).1, hf.heap.sub rfl rfl (fun b k hk h => onlyH_of h hk), hf.hdom⟩
 refine ((hcf.plain k args r st.heap h' hc).2 w Gc vals hbt hsz hv).mono ?_
 rintro e w' ⟨v, G2, rfl, hvr, he, hb2⟩
 let G' : GS := { fix := G2.fix, heap := G2.heap, box := G.box, ow := fun b => match G.ow b with | some k => if k.isH then G2.ow b else some k | none => G2.ow b, df := G.df }
 have hext : Ext w G w' G' := by
  refine ⟨he.os, he.tape, he.output, he.size, fun b hlt h => he.same b hlt (by simp [Gc, onlyH, h]), fun b o h => he.fix b o h, ?_, ?_, he.heap, he.shape, rfl⟩
  ·intro b o h
   rcases he.newfix b o h with h | h | h
   ·exact .inl h
   ·exact .inr (.inl h)
   ·refine .inr (.inr ?_)
    intro e
    apply h
    simp [Gc, onlyH, e]
  ·intro b h
   cases hb : G.ow b with
   | some k => exact .inr (by simp)
   | none =>
     simp only [G', hb] at h
     rcases he.own b h with h | h
     ·exact .inl h
     ·exact absurd (by simp [Gc, onlyH, hb]) h
 have hkeep : Keep (fun k => k.isH = true) w G w' G' := by
  refine ⟨?_, fun _ _ h => h⟩
  intro b key hb' hn
  have hlt' := hf.owlt _ _ hb'
  have hnone : Gc.ow b = none := by simp [Gc, onlyH, hb', hn]
  refine ⟨by simp [G', hb', hn], he.same b hlt' hnone, ?_⟩
  intro o h
  rcases he.newfix b o h with h | h | h
  ·exact h
  ·omega
  ·exact absurd hnone h
 have hheap : HR N w' G' h' := by
  refine hb2.heap.sub rfl rfl ?_
  intro b k hkH h
  cases hb : G.ow b with
  | none => simp only [G', hb]; exact h
  | some k0 =>
    by_cases hk0 : k0.isH = true
    ·simp only [G', hb, hk0, if_true]; exact h
    ·have hnone : Gc.ow b = none := by simp [Gc, onlyH, hb, hk0]
     have hlt := hf.owlt _ _ hb
     rcases he.own b (by rw [h]; simp) with h2 | h2
     ·omega
     ·exact absurd hnone h2
 have hf1 : FI N w' G' { st with heap := h' } a vs (lmap vs ops) := by
  refine ⟨hf.len, fun i t u h1 h2 => (hf.var i t u h1 h2).keep hext hkeep (by simp [Key.isH]) (by simp [Key.isH]), fun j t u h1 h2 => (hf.loc j t u h1 h2).keep hext hkeep (by simp [Key.isH]) (by simp [Key.isH]), hf.tv, hf.tl, (hf.defers.trans hext.df.symm), hf.gen, ?_, hb2.fixlt, hheap, hb2.hdom⟩
  intro b k h
  cases hb : G.ow b with
  | some k0 => exact Nat.lt_of_lt_of_le (hf.owlt _ _ hb) he.size
  | none =>
    simp only [G', hb] at h
    exact hb2.owlt _ _ h
 exact hk _ _ G' (hf1.put nm (cDst_ok ho) (SR.of_pure hvr.dem hvr.cp_dem)) hext (put_size _ _ _)
theorem vals_of {xs : Array Operand} {us : List PV} (h1 : xs.toList.length = us.length) (h2 : ∀ (i : Nat) (x : Operand) (u : PV), xs.toList[i]? = some x → us[i]? = some u → VR N w G.fix G.heap (a.eval x) u ∧ cp u = some u) :
  (xs.map a.eval).size = us.length ∧ ∀ (i : Nat) (v : Value) (p : PV), (xs.map a.eval)[i]? = some v → us[i]? = some p → VR N w G.fix G.heap v p := by
 refine ⟨by simpa using h1, ?_⟩
 intro i v p hv hp
 simp only [Array.getElem?_map, Option.map_eq_some_iff] at hv
 obtain ⟨x, hx, rfl⟩ := hv
 exact (h2 i x p (by simpa using hx) hp).1
theorem pcall_sound {L : Nat → Option PFunc} (hF : FnsOK N P L) (hE : EnvOk E N) (nm : Names vs (lmap vs ops)) (ho : ops[j]? = some o) (hf : FI N w G st a vs (lmap vs ops)) {cf : CallF} (hcf : CallOK N P cf) (hcL : ∀ k args h r, cf k args h = some r → ∃ f, L k = some f)
  {f : FuncId} {k : Nat} {xs : Array Operand} {ts : Array TypeId} {pxs : List PX} (hop : o.op = .call { callee := .value (.func f), args := xs, argTypes := ts }) (hk' : E.inv f = some k) (hx : cxs E vs ops xs.toList = some pxs)
  (hs : opv cf (.pcall k pxs) st = some (u, st1)) (hk : Goes N w G a st1 u vs ops j o next) : o.wp P a w next Q := by
 simp only [opv] at hs
 split at hs
 ·rename_i us hus
  split at hs
  ·rename_i hfree
   split at hs
   ·rename_i r h' hc
    split at hs
    ·rename_i hr
     simp only [Option.some.injEq, Prod.mk.injEq] at hs
     obtain ⟨rfl, rfl⟩ := hs
     obtain ⟨h1, h2⟩ := rdAll_sound hE hf hx hus
     obtain ⟨g1, g2⟩ := vals_of (w := w) (G := G) h1 h2
     obtain ⟨pf, hL⟩ := hcL _ _ _ _ hc
     have hfn := hE.fn _ _ hk'
     refine called_sound nm ho hf hcf g1 g2 hfree hc hr ?_ hk
     have := run_callFunc hF hL (xs.map a.eval) w
     rw [hfn] at this
     rw [hfn]
     simp [execOp, hop, resolve, Act.eval, Deferred.ofValue, invoke]
     exact this
    ·simp at hs
   ·simp at hs
  ·simp at hs
 ·simp at hs
theorem VR.cp_or {N : Nm} {w : World} {fix : Nat → Nat → Prop} {hp : Nat → Option Nat} {v : Value} {p : PV} (h : VR N w fix hp v p) : cp p = some p ∨ ∃ es, p = .list true es := by
 cases h with
 | nils o => cases o <;> simp [cp]
 | void o _ _ => cases o <;> simp [cp]
 | list o _ _ _ _ _ _ _ _ _ _ _ _ _ => cases o <;> simp [cp]
 | _ => exact .inl rfl
theorem cxs_get {E : Env} {vs : List Tmp} {ops : List Oper} : ∀ {xs : List Operand} {ps : List PX} {i : Nat} {p : PX}, cxs E vs ops xs = some ps → ps[i]? = some p → ∃ x, xs[i]? = some x ∧ cx E vs ops x = some p
 | [], ps, i, p, h, hp => by simp [cxs] at h; subst h; simp at hp
 | x :: xs, ps, i, p, h, hp => by
   simp only [cxs, Option.bind_eq_some_iff, Option.map_eq_some_iff] at h
   obtain ⟨q, h1, qs, h2, rfl⟩ := h
   cases i with
   | zero => simp at hp; subst hp; exact ⟨x, rfl, h1⟩
   | succ i =>
     have := cxs_get (i := i) h2 (by simpa using hp)
     simpa using this
def blockOf : Value → Option Nat
 | .slice (some a) _ _ => some a.block
 | _ => none
theorem calledx_sound (nm : Names vs (lmap vs ops)) (ho : ops[j]? = some o) (hd : cDst vs o.dst ≠ .n) {G0 : GS} (he0 : Ext w G0 w G) (hf : FI N w G st a vs (lmap vs ops)) {cf : CallF} (hcf : CallOK N P cf) {k : Nat} {own : Option Nat} {args : List PV} {vals : Array Value} {r : PV} {h' : List PObj}
  (hsz : vals.size = args.length) (hv : ∀ (i : Nat) (v : Value) (p : PV), vals[i]? = some v → args[i]? = some p → VR N w G.fix G.heap v p) (hfree : refFrees args = true)
  (hroom : ∀ (i : Nat) (v : Value) (es : List PV), own = some i → vals[i]? = some v → args[i]? = some (.list true es) → Room w G (keyD (cDst vs o.dst) j) v es)
  (hc : cf k (ownArgs own args) [] = some (r, h')) (hr : refFree r = true)
  (hrun : (execOp a.eval o).run P w = .ok (.enter (N.fn k) vals) w) (hk : Goes N w G0 a st r vs ops j o next) : o.wp P a w next Q := by
 classical
 unfold Oper.wp
 rw [hrun]
 let key := keyD (cDst vs o.dst) j
 let Gc : GS := { fix := G.fix, heap := fun _ => none, box := fun _ => none, ow := fun b => own.bind fun i => if vals[i]?.bind blockOf = some b ∧ G.ow b = some key then some (.var i) else none }
 have hGc : ∀ b k, Gc.ow b = some k → G.ow b = some key ∧ ∃ i, own = some i ∧ k = .var i := by
  intro b k h
  simp only [Gc, Option.bind_eq_some_iff] at h
  obtain ⟨i, hi, h⟩ := h
  split at h
  ·rename_i hb
   simp only [Option.some.injEq] at h
   exact ⟨hb.2, i, hi, h.symm⟩
  ·simp at h
 have hin : OwnIn N w Gc own args vals := by
  refine ⟨fun b k h => (hGc b k h).2, fun _ => rfl, fun _ => rfl, hf.fixlt, fun b k h => hf.owlt _ _ (hGc b k h).1, hf.heap.2, hsz, fun i v p h1 h2 => (hv i v p h1 h2).free (refFrees_get hfree p (List.mem_of_getElem? h2)), ?_⟩
  intro i v es hi hvi hes
  have h := hroom i v es hi hvi hes
  unfold Room at *
  split at h
  ·rename_i a' len cap
   rcases h with h | ⟨h1, h2⟩
   ·exact .inl h
   ·refine .inr ⟨?_, h2⟩
    simp only [Gc, hi, hvi, Option.bind_some, blockOf, true_and]
    rw [if_pos (show G.ow a'.block = some key from h1)]
  ·trivial
 refine ((hcf.own k own args r h' hc).2 w Gc vals hin).mono ?_
 rintro e w' ⟨v, G2, rfl, hvr, he, hfx, hsp⟩
 let G' : GS := { G with fix := G2.fix, ow := fun b => if (∃ es, r = .list true es) ∧ blockOf v = some b ∧ (w.heap.size ≤ b ∨ Gc.ow b ≠ none) ∧ b < w'.heap.size then some key else G.ow b }
 have hnone : ∀ b k, G.ow b = some k → k ≠ key → Gc.ow b = none := by
  intro b k h hn
  cases hx : Gc.ow b with
  | none => rfl
  | some k' =>
    have := (hGc b k' hx).1
    rw [h] at this
    simp only [Option.some.injEq] at this
    exact absurd this hn
 have hnone' : ∀ b, G.ow b = none → Gc.ow b = none := by
  intro b h
  cases hx : Gc.ow b with
  | none => rfl
  | some k' => have := (hGc b k' hx).1; rw [h] at this; simp at this
 have hext : Ext w G w' G' := by
  refine ⟨he.os, he.tape, he.output, he.size, fun b hlt h => he.same b hlt (hnone' b h), fun b o h => he.fix b o h, ?_, ?_, fun _ _ h => h, he.shape, rfl⟩
  ·intro b o h
   rcases he.newfix b o h with h | h | h
   ·exact .inl h
   ·exact .inr (.inl h)
   ·exact .inr (.inr fun e => h (hnone' b e))
  ·intro b h
   simp only [G'] at h
   split at h
   ·rename_i hb
    rcases hb.2.2.1 with h1 | h1
    ·exact .inl h1
    ·exact .inr fun e => h1 (hnone' b e)
   ·exact .inr h
 have hkeep : Keep (fun k => k = key) w G w' G' := by
  refine ⟨?_, fun _ _ h => h⟩
  intro b k hb' hn
  have hlt' := hf.owlt _ _ hb'
  have h0 := hnone b k hb' hn
  refine ⟨?_, he.same b hlt' h0, ?_⟩
  ·simp only [G']
   rw [if_neg]
   ·exact hb'
   ·rintro ⟨_, _, h1 | h1, _⟩
    ·omega
    ·exact h1 h0
  ·intro o h
   rcases he.newfix b o h with h | h | h
   ·exact h
   ·omega
   ·exact absurd h0 h
 have how : ∀ b k, G'.ow b = some k → b < w'.heap.size := by
  intro b k h
  simp only [G'] at h
  split at h
  ·rename_i hb; exact hb.2.2.2
  ·exact Nat.lt_of_lt_of_le (hf.owlt _ _ h) he.size
 have hvr' : VR N w' G'.fix G'.heap v r := hvr.free hr
 have hsr : SR N w' G' key v r := by
  rcases hvr'.cp_or with h | ⟨es, rfl⟩
  ·exact SR.of_pure hvr' h
  ·refine ⟨hvr', ?_⟩
   have h := hsp es rfl
   unfold Room
   unfold Spare at h
   split at h
   ·rename_i a' len cap
    rcases h with h | ⟨h1, sz, cs, T, h2, h3, h4⟩
    ·exact .inl h
    ·refine .inr ⟨?_, sz, cs, T, h2, h3, h4⟩
     simp only [G']
     rw [if_pos]
     exact ⟨⟨es, rfl⟩, rfl, h1, let ⟨fz, h5, _⟩ := h3; (Array.getElem?_eq_some_iff.1 h5).1⟩
   ·rename_i hx
    split
    ·rename_i a' len cap; exact absurd rfl (hx _ _ _)
    ·trivial
 exact hk _ _ G' (hf.extDst nm (cDst_ok ho) hd hext hkeep (fun g b h => hf.gen g b h) how hfx rfl hsr) (he0.trans hext) (put_size _ _ _)
theorem pcallx_sound {L : Nat → Option PFunc} (hF : FnsOK N P L) (hE : EnvOk E N) (nm : Names vs (lmap vs ops)) (ho : ops[j]? = some o) (hd : cDst vs o.dst ≠ .n) (hf : FI N w G st a vs (lmap vs ops)) {cf : CallF} (hcf : CallOK N P cf) (hcL : ∀ k args h r, cf k args h = some r → ∃ f, L k = some f)
  {f : FuncId} {k : Nat} {xs : Array Operand} {ts : Array TypeId} {pxs : List PX} {own : Option Nat} (hop : o.op = .call { callee := .value (.func f), args := xs, argTypes := ts }) (hk' : E.inv f = some k) (hx : cxs E vs ops xs.toList = some pxs)
  (hs : opv cf (.pcallx k pxs own) st = some (u, st1)) (hk : Goes N w G a st1 u vs ops j o next) : o.wp P a w next Q := by
 have hrun : ∀ {args : List PV} {h : List PObj} {r}, cf k args h = some r → (execOp a.eval o).run P w = .ok (.enter (N.fn k) (xs.map a.eval)) w := by
  intro args h r hc
  obtain ⟨pf, hL⟩ := hcL _ _ _ _ hc
  have hfn := hE.fn _ _ hk'
  have := run_callFunc hF hL (xs.map a.eval) w
  rw [hfn] at this
  rw [hfn]
  simp [execOp, hop, resolve, Act.eval, Deferred.ofValue, invoke]
  exact this
 simp only [opv] at hs
 split at hs
 ·split at hs
  ·rename_i us hus
   split at hs
   ·rename_i hfree
    split at hs
    ·rename_i r h' hc
     split at hs
     ·rename_i hr
      simp only [Option.some.injEq, Prod.mk.injEq] at hs
      obtain ⟨rfl, rfl⟩ := hs
      obtain ⟨h1, h2⟩ := rdAll_sound hE hf hx hus
      obtain ⟨g1, g2⟩ := vals_of (w := w) (G := G) h1 h2
      exact calledx_sound nm ho hd (Ext.refl _ _) hf hcf g1 g2 hfree (by intro i v es h; simp at h) hc hr (hrun hc) hk
     ·simp at hs
    ·simp at hs
   ·simp at hs
  ·simp at hs
 ·rename_i i
  split at hs
  ·rename_i v0 st2 us ht hus
   split at hs
   ·rename_i hfree
    split at hs
    ·rename_i r h' hc
     split at hs
     ·rename_i hr
      simp only [Option.some.injEq, Prod.mk.injEq] at hs
      obtain ⟨rfl, rfl⟩ := hs
      simp only [Option.bind_eq_some_iff] at ht
      obtain ⟨px, hpx, ht⟩ := ht
      obtain ⟨h1, h2⟩ := rdAll_sound hE hf hx hus
      obtain ⟨g1, g2⟩ := vals_of (w := w) (G := G) h1 h2
      obtain ⟨x, hx1, hx2⟩ := cxs_get hx hpx
      obtain ⟨G', k1, k2, k3, k4, k5, k6, k7, _⟩ := tk_sound hE hx2 hf ht (keyD (cDst vs o.dst) j)
      refine calledx_sound nm ho hd k2 k1 hcf (by rw [List.length_set]; exact g1) ?_ hfree.1 ?_ hc hr (hrun hc) hk
      ·intro i' v p hv hp
       rw [k4, k5]
       rw [List.getElem?_set] at hp
       split at hp
       ·rename_i he
        subst he
        split at hp
        ·simp only [Option.some.injEq] at hp
         subst hp
         simp only [Array.getElem?_map, Option.map_eq_some_iff] at hv
         obtain ⟨x', hx', rfl⟩ := hv
         have : x' = x := by rw [← Array.getElem?_toList, hx1] at hx'; simpa using hx'.symm
         subst this
         exact k6
        ·simp at hp
       ·exact g2 i' v p hv hp
      ·intro i' v es hi hv hes
       simp only [Option.some.injEq] at hi
       subst hi
       rw [List.getElem?_set] at hes
       simp only [if_true, hfree.2, Option.some.injEq] at hes
       subst hes
       simp only [Array.getElem?_map, Option.map_eq_some_iff] at hv
       obtain ⟨x', hx', rfl⟩ := hv
       have : x' = x := by rw [← Array.getElem?_toList, hx1] at hx'; simpa using hx'.symm
       subst this
       exact k7
     ·simp at hs
    ·simp at hs
   ·simp at hs
  ·simp at hs
theorem callv_sound {L : Nat → Option PFunc} (hF : FnsOK N P L) (hE : EnvOk E N) (nm : Names vs (lmap vs ops)) (ho : ops[j]? = some o) (hf : FI N w G st a vs (lmap vs ops)) {cf : CallF} (hcf : CallOK N P cf) (hcL : ∀ k args h r, cf k args h = some r → ∃ f, L k = some f)
  {t : Tmp} {px : PX} {xs : Array Operand} {ts : Array TypeId} {pxs : List PX} (hop : o.op = .call { callee := .value (.tmp t), args := xs, argTypes := ts }) (hpx : cx E vs ops (.tmp t) = some px) (hx : cxs E vs ops xs.toList = some pxs)
  (hs : opv cf (.callv px pxs) st = some (u, st1)) (hk : Goes N w G a st1 u vs ops j o next) : o.wp P a w next Q := by
 simp only [opv] at hs
 split at hs
 ·rename_i k first captured us hfv hus
  split at hs
  ·rename_i hfree
   split at hs
   ·rename_i r h' hc
    split at hs
    ·rename_i hr
     simp only [Option.some.injEq, Prod.mk.injEq] at hs
     obtain ⟨rfl, rfl⟩ := hs
     obtain ⟨h1, h2⟩ := rdAll_sound hE hf hx hus
     obtain ⟨g1, g2⟩ := vals_of (w := w) (G := G) h1 h2
     obtain ⟨pf, hL⟩ := hcL _ _ _ _ hc
     have hfun := (rd_sound hE hpx hf hfv).1
     generalize hv : a.eval (.tmp t) = v at hfun
     cases hfun with
     | yield _ _ _ _ _ _ hy => rw [(hcf.plain _ _ _ _ _ hc).1] at hy; simp at hy
     | func _ fs cs _ _ _ e1 e2 hfs hcs =>
       refine called_sound (vals := fs ++ xs.map a.eval ++ cs) nm ho hf hcf (by simp [e1, e2]; simpa using h1) ?_ hfree hc hr ?_ hk
       ·intro i v p hv' hp
        by_cases hi : i < fs.size
        ·rw [Array.append_assoc, Array.getElem?_append_left hi] at hv'
         rw [List.append_assoc, List.getElem?_append_left (by omega)] at hp
         exact hfs i v p hv' hp
        ·rw [Array.append_assoc, Array.getElem?_append_right (by omega)] at hv'
         rw [List.append_assoc, List.getElem?_append_right (by omega), ← e1] at hp
         by_cases hi2 : i - fs.size < (xs.map a.eval).size
         ·rw [Array.getElem?_append_left hi2] at hv'
          rw [List.getElem?_append_left (by omega)] at hp
          exact g2 _ v p hv' hp
         ·rw [Array.getElem?_append_right (by omega)] at hv'
          rw [List.getElem?_append_right (by omega), ← g1] at hp
          exact hcs _ v p hv' hp
       ·have := run_callFunc hF hL (fs ++ xs.map a.eval ++ cs) w
        simp only [execOp, hop, resolve, Sem.run_bind, hv, Deferred.ofValue, Sem.run_pure, Result.andThen_ok, invoke]
        exact this
    ·simp at hs
   ·simp at hs
  ·simp at hs
 ·simp at hs
theorem hcall_sound {L : Nat → Option PFunc} (hF : FnsOK N P L) (hE : EnvOk E N) (nm : Names vs (lmap vs ops)) (ho : ops[j]? = some o) (hf : FI N w G st a vs (lmap vs ops)) {cf : CallF} (hcf : CallOK N P cf) (hcL : ∀ k args h r, cf k args h = some r → ∃ f, L k = some f)
  {f : FuncId} {k : Nat} {xs : Array Operand} {ts : Array TypeId} {pxs : List PX} (hop : o.op = .call { callee := .value (.func f), args := xs, argTypes := ts }) (hk' : E.inv f = some k) (hx : cxs E vs ops xs.toList = some pxs)
  (hs : hopv cf (.call k pxs) st = some (u, st1)) (hk : Goes N w G a st1 u vs ops j o next) : o.wp P a w next Q := by
 simp only [hopv, Option.bind_eq_some_iff, Option.map_eq_some_iff, Prod.mk.injEq] at hs
 obtain ⟨us, hus, ⟨r, h'⟩, hc, rfl, rfl⟩ := hs
 obtain ⟨h1, h2⟩ := rdAll_sound hE hf hx hus
 obtain ⟨g1, g2⟩ := vals_of (w := w) (G := G) h1 h2
 obtain ⟨pf, hL⟩ := hcL _ _ _ _ hc
 have hfn := hE.fn _ _ hk'
 refine called_heap nm ho hf hcf g1 g2 hc ?_ hk
 have := run_callFunc hF hL (xs.map a.eval) w
 rw [hfn] at this
 rw [hfn]
 simp [execOp, hop, resolve, Act.eval, Deferred.ofValue, invoke]
 exact this
theorem hcallv_sound {L : Nat → Option PFunc} (hF : FnsOK N P L) (hE : EnvOk E N) (nm : Names vs (lmap vs ops)) (ho : ops[j]? = some o) (hf : FI N w G st a vs (lmap vs ops)) {cf : CallF} (hcf : CallOK N P cf) (hcL : ∀ k args h r, cf k args h = some r → ∃ f, L k = some f)
  {t : Tmp} {px : PX} {xs : Array Operand} {ts : Array TypeId} {pxs : List PX} (hop : o.op = .call { callee := .value (.tmp t), args := xs, argTypes := ts }) (hpx : cx E vs ops (.tmp t) = some px) (hx : cxs E vs ops xs.toList = some pxs)
  (hs : hopv cf (.callv px pxs) st = some (u, st1)) (hk : Goes N w G a st1 u vs ops j o next) : o.wp P a w next Q := by
 simp only [hopv] at hs
 split at hs
 ·rename_i k first captured us hfv hus
  simp only [Option.map_eq_some_iff, Prod.mk.injEq] at hs
  obtain ⟨⟨r, h'⟩, hc, rfl, rfl⟩ := hs
  obtain ⟨h1, h2⟩ := rdAll_sound hE hf hx hus
  obtain ⟨g1, g2⟩ := vals_of (w := w) (G := G) h1 h2
  obtain ⟨pf, hL⟩ := hcL _ _ _ _ hc
  have hfun := (rd_sound hE hpx hf hfv).1
  generalize hv : a.eval (.tmp t) = v at hfun
  cases hfun with
  | yield _ _ _ _ _ _ hy => rw [(hcf.plain _ _ _ _ _ hc).1] at hy; simp at hy
  | func _ fs cs _ _ _ e1 e2 hfs hcs =>
    refine called_heap (vals := fs ++ xs.map a.eval ++ cs) nm ho hf hcf (by simp [e1, e2]; simpa using h1) ?_ hc ?_ hk
    ·intro i v p hv' hp
     by_cases hi : i < fs.size
     ·rw [Array.append_assoc, Array.getElem?_append_left hi] at hv'
      rw [List.append_assoc, List.getElem?_append_left (by omega)] at hp
      exact hfs i v p hv' hp
     ·rw [Array.append_assoc, Array.getElem?_append_right (by omega)] at hv'
      rw [List.append_assoc, List.getElem?_append_right (by omega), ← e1] at hp
      by_cases hi2 : i - fs.size < (xs.map a.eval).size
      ·rw [Array.getElem?_append_left hi2] at hv'
       rw [List.getElem?_append_left (by omega)] at hp
       exact g2 _ v p hv' hp
      ·rw [Array.getElem?_append_right (by omega)] at hv'
       rw [List.getElem?_append_right (by omega), ← g1] at hp
       exact hcs _ v p hv' hp
    ·have := run_callFunc hF hL (fs ++ xs.map a.eval ++ cs) w
     simp only [execOp, hop, resolve, Sem.run_bind, hv, Deferred.ofValue, Sem.run_pure, Result.andThen_ok, invoke]
     exact this
 ·simp at hs
theorem hop_sound {L : Nat → Option PFunc} (hF : FnsOK N P L) (hE : EnvOk E N) (hP : E.P = P) (nm : Names vs (lmap vs ops)) (ho : ops[j]? = some o) (hf : FI N w G st a vs (lmap vs ops)) {cf : CallF} (hcf : CallOK N P cf)
  (hcL : ∀ k args h r, cf k args h = some r → ∃ f, L k = some f) {po : HOp} (hc : cHeap E vs ops o = some po) (hs : hopv cf po st = some (u, st1)) (hk : Goes N w G a st1 u vs ops j o next) : o.wp P a w next Q := by
 subst hP
 unfold cHeap at hc
 split at hc
 ·rename_i t hop
  split at hc
  ·simp at hc
  ·split at hc
   ·rename_i hb
    simp only [Option.some.injEq] at hc
    subst hc
    exact newbld_sound hE rfl nm ho hf hop hb hs hk
   ·simp only [Option.map_eq_some_iff] at hc
    obtain ⟨z, hz, rfl⟩ := hc
    exact newobj_sound nm ho hf hop hz hs hk
 ·rename_i t x hop
  split at hc
  ·simp at hc
  ·simp only [Option.bind_eq_some_iff, Option.map_eq_some_iff] at hc
   obtain ⟨n, hn, p, hp, rfl⟩ := hc
   exact boxobj_sound hE nm ho hf hop hn hp hs hk
 ·rename_i t x hop
  split at hc
  ·simp only [Option.bind_eq_some_iff, Option.map_eq_some_iff] at hc
   obtain ⟨n, hn, p, hp, rfl⟩ := hc
   exact hload_sound hE nm ho hf hop hn hp hs hk
  ·split at hc
   ·simp only [Option.bind_eq_some_iff, Option.map_eq_some_iff] at hc
    obtain ⟨n, hn, p, hp, rfl⟩ := hc
    exact loadc_sound hE nm ho hf hop hn hp hs hk
   ·simp at hc
 ·rename_i t x y hop
  split at hc
  ·rename_i hd
   simp only [Option.bind_eq_some_iff, Option.map_eq_some_iff] at hc
   obtain ⟨n, hn, p, hp, q, hq, hc⟩ := hc
   split at hc
   ·subst hc
    exact hstorer_sound hE nm ho hf hop hd.1 hn hp hq hs hk
   ·subst hc
    exact hstore_sound hE nm ho hf hop hd.1 hn hp hq hs hk
  ·simp at hc
 ·rename_i t x i hop
  split at hc
  ·rename_i len e hu
   split at hc
   ·simp only [Option.bind_eq_some_iff, Option.map_eq_some_iff] at hc
    obtain ⟨n, hn, p, hp, q, hq, rfl⟩ := hc
    exact hiaddr_sound hE nm ho hf hop hu hn hp hq hs hk
   ·simp at hc
  ·simp at hc
 ·rename_i t hop
  split at hc
  ·simp at hc
  ·simp only [Option.some.injEq] at hc
   subst hc
   exact mkmap_sound nm ho hf hop hs hk
 ·rename_i t m k ok hop
  split at hc
  ·rename_i kt e hu
   simp only [Option.bind_eq_some_iff, Option.map_eq_some_iff] at hc
   obtain ⟨kk, hkk, z, hz, p, hp, q, hq, rfl⟩ := hc
   exact lookup_sound hE nm ho hf hop hu hkk hz hp hq hs hk
  ·simp at hc
 ·rename_i t m k v hop
  split at hc
  ·rename_i kt e hu
   split at hc
   ·rename_i hd
    simp only [Option.bind_eq_some_iff, Option.map_eq_some_iff] at hc
    obtain ⟨kk, hkk, p, hp, q, hq, r, hr, rfl⟩ := hc
    exact mset_sound hE nm ho hf (.inl hop) hd hu hkk hp hq hr hs hk
   ·simp at hc
  ·simp at hc
 ·rename_i t m k v hop
  split at hc
  ·rename_i kt e hu
   split at hc
   ·rename_i hd
    simp only [Option.bind_eq_some_iff, Option.map_eq_some_iff] at hc
    obtain ⟨kk, hkk, p, hp, q, hq, r, hr, rfl⟩ := hc
    exact mset_sound hE nm ho hf (.inr hop) hd hu hkk hp hq hr hs hk
   ·simp at hc
  ·simp at hc
 ·rename_i op t x y t' hop
  split at hc
  ·rename_i hcond
   simp only [Option.bind_eq_some_iff, Option.map_eq_some_iff] at hc
   obtain ⟨kd, hkd, p, hp, rfl⟩ := hc
   exact isnil_sound hE nm ho hf hop hcond hkd hp hs hk
  ·simp at hc
 ·rename_i x hop
  simp only [Option.map_eq_some_iff] at hc
  obtain ⟨p, hp, rfl⟩ := hc
  exact nilchk_sound hE nm ho hf hop hp hs hk
 ·rename_i t l c' hop
  split at hc
  ·rename_i e hu
   split at hc
   ·rename_i size z hn hz
    split at hc
    ·simp at hc
    ·rename_i hcond
     simp only [Bool.or_eq_true, not_or, Bool.not_eq_true, Bool.not_eq_false'] at hcond
     simp only [Option.map_eq_some_iff] at hc
     obtain ⟨p, hp, rfl⟩ := hc
     exact mkarr_sound hE nm ho hf hop hu hn hz hcond.2 hp hs hk
   ·simp at hc
  ·simp at hc
 ·rename_i t x hop
  split at hc
  ·rename_i hu
   split at hc
   ·simp at hc
   ·simp only [Option.map_eq_some_iff] at hc
    obtain ⟨p, hp, rfl⟩ := hc
    exact range_sound hE nm ho hf hop hu hp hs hk
  ·simp at hc
 ·rename_i x hop
  split at hc
  ·simp at hc
  ·simp only [Option.map_eq_some_iff] at hc
   obtain ⟨p, hp, rfl⟩ := hc
   exact next_sound hE nm ho hf hop hp hs hk
 ·rename_i t parts hop
  split at hc
  ·rename_i n e hu
   split at hc
   ·rename_i size z hn hz
    simp only [Option.map_eq_some_iff] at hc
    obtain ⟨ps, hps, rfl⟩ := hc
    exact barr_sound hE nm ho hf hop hu hn hz hps hs hk
   ·simp at hc
  ·simp at hc
 ·rename_i t x i hop
  split at hc
  ·rename_i len e hu
   simp only [Option.bind_eq_some_iff, Option.map_eq_some_iff] at hc
   obtain ⟨n, hn, p, hp, q, hq, rfl⟩ := hc
   exact idxA_sound hE nm ho hf hop hu hn hp hq hs hk
  ·simp at hc
 ·rename_i fn xs ys hop
  split at hc
  ·simp at hc
  ·simp only [Option.bind_eq_some_iff, Option.map_eq_some_iff] at hc
   obtain ⟨f, hfn, k, hk', ps, hps, qs, hqs, rfl⟩ := hc
   have : fn = .func f := by
    unfold isFn at hfn
    split at hfn
    ·simp at hfn; subst hfn; rfl
    ·simp at hfn
   subst this
   exact mkfunc_sound hE nm ho hf hop hk' hps hqs hs hk
 ·rename_i args ts hop
  obtain ⟨args⟩ := args
  obtain ⟨ts⟩ := ts
  split at hc
  ·rename_i s x t1 t2 hargs hts
   simp only at hargs hts
   subst hargs hts
   split at hc
   ·split at hc
    ·rename_i e e' hu hu'
     split at hc
     ·rename_i size z hn hz
      simp only [Option.bind_eq_some_iff, Option.map_eq_some_iff] at hc
      obtain ⟨p, hp, q, hq, rfl⟩ := hc
      exact happ_sound hE nm ho hf hop hu hu' hn hz hp hq hs hk
     ·simp at hc
    ·rename_i e k0 hu hu'
     split at hc
     ·rename_i size z hn hz
      simp only [Option.bind_eq_some_iff, Option.map_eq_some_iff] at hc
      obtain ⟨p, hp, q, hq, rfl⟩ := hc
      exact happz_sound hE nm ho hf hop hu hu' hn hz hp hq hs hk
     ·simp at hc
    ·simp at hc
   ·simp at hc
  ·simp at hc
 ·rename_i args ts hop
  obtain ⟨args⟩ := args
  obtain ⟨ts⟩ := ts
  split at hc
  ·rename_i x t rest hargs hts
   simp only at hargs hts
   subst hargs hts
   split at hc
   ·rename_i e hu
    split at hc
    ·rename_i hn0
     simp only [Option.bind_eq_some_iff, Option.map_eq_some_iff] at hc
     obtain ⟨size, hn, z, hz, p, hp, rfl⟩ := hc
     have hdst : o.dst = none := by
      unfold isN cDst at hn0
      split at hn0
      ·rename_i hd
       split at hd
       ·assumption
       ·split at hd <;> simp at hd
      ·simp at hn0
     exact clear_sound hE nm ho hf hdst hop hu hn hz hp hs hk
    ·simp at hc
   ·simp at hc
  ·simp at hc
 ·rename_i args ts hop
  obtain ⟨args⟩ := args
  obtain ⟨ts⟩ := ts
  split at hc
  ·rename_i x t rest hargs hts
   simp only at hargs hts
   subst hargs hts
   split at hc
   ·rename_i kt e hu
    split at hc
    ·simp at hc
    ·simp only [Option.map_eq_some_iff] at hc
     obtain ⟨p, hp, rfl⟩ := hc
     exact mlen_sound hE nm ho hf hop rfl hu hp hs hk
   ·simp at hc
  ·simp at hc
 ·rename_i f args ts hop
  split at hc
  ·simp only [Option.bind_eq_some_iff, Option.map_eq_some_iff] at hc
   obtain ⟨k, hk', ps, hps, rfl⟩ := hc
   split at hs
   ·refine hcall_sound hF hE nm ho hf hcf hcL hop hk' hps ?_ hk
    simp only [hopv, Option.bind_eq_some_iff, same] at hs ⊢
    obtain ⟨us, h1, r, h2, h3⟩ := hs
    split at h3
    ·rename_i he
     simp only [Option.some.injEq, Prod.mk.injEq] at h3
     obtain ⟨rfl, rfl⟩ := h3
     exact ⟨us, h1, by rw [h2, Option.map_some, he]⟩
    ·simp at h3
   ·exact hcall_sound hF hE nm ho hf hcf hcL hop hk' hps hs hk
  ·simp at hc
 ·rename_i t args ts hop
  split at hc
  ·simp only [Option.bind_eq_some_iff, Option.map_eq_some_iff] at hc
   obtain ⟨p, hp, ps, hps, rfl⟩ := hc
   exact hcallv_sound hF hE nm ho hf hcf hcL hop hp hps hs hk
  ·simp at hc
 ·simp at hc
theorem op_sound {L : Nat → Option PFunc} (hF : FnsOK N P L) (hE : EnvOk E N) (hP : E.P = P) (nm : Names vs (lmap vs ops)) (ho : ops[j]? = some o) (hf : FI N w G st a vs (lmap vs ops)) {cf : CallF} (hcf : CallOK N P cf)
  (hcL : ∀ k args h r, cf k args h = some r → ∃ f, L k = some f) {po : POp} (hc : cOp E vs ops o = some po) (hs : opv cf po st = some (u, st1)) (hk : Goes N w G a st1 u vs ops j o next) : o.wp P a w next Q := by
 unfold cOp at hc
 simp only at hc
 split at hc
 ·rename_i h hch
  simp only [Option.some.injEq] at hc
  subst hc
  exact hop_sound hF hE hP nm ho hf hcf hcL hch (by simpa [opv] using hs) hk
 rename_i hnone
 subst hP
 split at hc
 ·
  rename_i x hop
  simp only [Option.map_eq_some_iff] at hc
  obtain ⟨p, hp, rfl⟩ := hc
  split at hs
  ·exact take_sound hE nm ho hf (by simp [execOp, hop]) hp (by simpa [opv] using hs) hk
  ·exact mov_sound hE nm ho hf (by simp [execOp, hop]) hp (by simpa [opv] using hs) hk
 ·rename_i x hop
  simp only [Option.map_eq_some_iff] at hc
  obtain ⟨p, hp, rfl⟩ := hc
  exact take_sound hE nm ho hf (by simp [execOp, hop]) hp (by simpa [opv] using hs) hk
 ·rename_i x y z hop
  simp only [Option.bind_eq_some_iff, Option.map_eq_some_iff] at hc
  obtain ⟨px, hpx, pa, hpa, pb, hpb, rfl⟩ := hc
  exact pick_sound hE nm ho hf hop hpx hpa hpb hs hk
 ·rename_i t hop
  split at hc
  ·rename_i hv
   simp only [Option.map_eq_some_iff] at hc
   obtain ⟨z, hz, rfl⟩ := hc
   exact newloc_sound nm ho hf hop hz hv hs hk
  ·simp at hc
 ·rename_i t x hop
  split at hc
  ·rename_i hv
   simp only [Option.bind_eq_some_iff, Option.map_eq_some_iff] at hc
   obtain ⟨n, hn, p, hp, rfl⟩ := hc
   exact boxloc_sound hE nm ho hf hop hn hp hv hs hk
  ·simp at hc
 ·rename_i t parts hop
  split at hc
  ·rename_i fs z hu hz
   split at hc
   ·rename_i places hpl
    simp only [Option.map_eq_some_iff] at hc
    obtain ⟨ps, hps, rfl⟩ := hc
    exact build_sound hE nm ho hf hop hu hz hpl hps hs hk
   ·simp at hc
  ·simp at hc
 ·rename_i t len parts hop
  split at hc
  ·rename_i e hu
   split at hc
   ·rename_i size z hn hz
    split at hc
    ·rename_i hlen
     simp only [Option.map_eq_some_iff] at hc
     obtain ⟨ps, hps, rfl⟩ := hc
     exact mkslice_sound hE nm ho hf hop hu hn hz hlen hps hs hk
    ·simp at hc
   ·simp at hc
  ·simp at hc
 ·rename_i t x hop
  simp only [Option.bind_eq_some_iff, Option.map_eq_some_iff] at hc
  obtain ⟨n, hn, p, hp, rfl⟩ := hc
  split at hs
  ·refine load_sound (tk := false) (cf := cf) hE nm ho hf hop hn hp ?_ hk
   simp only [opv] at hs ⊢
   split at hs
   ·rename_i s' g off hadd
    split at hs
    ·rename_i g' cs hv
     split at hs
     ·rename_i hc
      obtain ⟨rfl, rfl⟩ := hc
      simp only [hadd, hv, if_true, Bool.false_and]
      exact hs
     ·simp at hs
    ·simp at hs
   ·simp at hs
  ·exact load_sound hE nm ho hf hop hn hp hs hk
 ·rename_i t x y hop
  split at hc
  ·rename_i hd
   simp only [Option.bind_eq_some_iff, Option.map_eq_some_iff] at hc
   obtain ⟨n, hn, p, hp, q, hq, rfl⟩ := hc
   exact store_sound hE nm ho hf hop hd hn hp hq hs hk
  ·simp at hc
 ·rename_i s x f hop
  split at hc
  ·rename_i fs hu
   split at hc
   ·rename_i fd hfd
    simp only [Option.bind_eq_some_iff, Option.map_eq_some_iff] at hc
    obtain ⟨n, hn, p, hp, rfl⟩ := hc
    exact faddr_sound hE nm ho hf hop hu hfd hn hp hs hk
   ·simp at hc
  ·simp at hc
 ·rename_i t x i hop
  split at hc
  ·rename_i e hu
   simp only [Option.bind_eq_some_iff, Option.map_eq_some_iff] at hc
   obtain ⟨n, hn, p, hp, q, hq, rfl⟩ := hc
   exact iaddrS_sound hE nm ho hf hop hu hn hp hq hs hk
  ·rename_i len e hu
   simp only [Option.bind_eq_some_iff, Option.map_eq_some_iff] at hc
   obtain ⟨n, hn, p, hp, q, hq, rfl⟩ := hc
   exact iaddrA_sound hE nm ho hf hop hu hn hp hq hs hk
  ·simp at hc
 ·rename_i t x f hop
  split at hc
  ·rename_i fs hu
   split at hc
   ·rename_i fd hfd
    simp only [Option.bind_eq_some_iff, Option.map_eq_some_iff] at hc
    obtain ⟨n, hn, p, hp, rfl⟩ := hc
    exact field_sound hE nm ho hf hop hu hfd hn hp hs hk
   ·simp at hc
  ·simp at hc
 ·rename_i t x i hop
  split at hc
  ·rename_i hu
   simp only [Option.bind_eq_some_iff, Option.map_eq_some_iff] at hc
   obtain ⟨p, hp, q, hq, rfl⟩ := hc
   exact indexStr_sound hE nm ho hf hop hu hp hq hs hk
  ·simp at hc
 ·rename_i t x lo hi hop
  split at hc
  ·rename_i hu
   simp only [Option.bind_eq_some_iff, Option.map_eq_some_iff] at hc
   obtain ⟨p, hp, pl, hl, ph, hh, rfl⟩ := hc
   exact sliceS_sound hE nm ho hf hop hu hp hl hh hs hk
  ·rename_i e hu
   simp only [Option.bind_eq_some_iff, Option.map_eq_some_iff] at hc
   obtain ⟨n, hn, p, hp, pl, hl, ph, hh, rfl⟩ := hc
   exact sliceL_sound hE nm ho hf hop hu hn hp hl hh hs hk
  ·rename_i n e hu
   split at hc
   ·have hn : sizeT E.P e = some 1 := by assumption
    simp only [Option.map_eq_some_iff] at hc
    obtain ⟨p, hp, rfl⟩ := hc
    exact sliceLoc_sound hE nm ho hf hop hu hn hp hs hk
   ·simp at hc
  ·simp at hc
 ·rename_i op t x y t' hop
  split at hc
  ·rename_i hop2
   split at hc
   ·rename_i agg ks ht
    simp only [Option.bind_eq_some_iff, Option.map_eq_some_iff] at hc
    obtain ⟨p, hp, q, hq, rfl⟩ := hc
    exact eq_sound hE rfl nm ho hf hop hop2 ht hp hq hs hk
   ·simp only [Option.bind_eq_some_iff, Option.map_eq_some_iff] at hc
    obtain ⟨p, hp, q, hq, rfl⟩ := hc
    exact bin_sound hE nm ho hf hop hp hq hs hk
   ·simp at hc
  ·simp only [Option.bind_eq_some_iff, Option.map_eq_some_iff] at hc
   obtain ⟨p, hp, q, hq, rfl⟩ := hc
   exact bin_sound hE nm ho hf hop hp hq hs hk
 ·rename_i op t x hop
  simp only [Option.map_eq_some_iff] at hc
  obtain ⟨p, hp, rfl⟩ := hc
  exact un_sound hE nm ho hf hop hp hs hk
 ·rename_i s t x hop
  split at hc
  ·rename_i k' k hu hu'
   simp only [Option.map_eq_some_iff] at hc
   obtain ⟨p, hp, rfl⟩ := hc
   exact convInt_sound hE nm ho hf hop hu hu' hp hs hk
  ·rename_i hu hu'
   simp only [Option.map_eq_some_iff] at hc
   obtain ⟨p, hp, rfl⟩ := hc
   exact movs_sound hE nm ho hf hop hu hu' hp hs hk
  ·rename_i e hu hu'
   split at hc
   ·rename_i he
    split at hc
    ·simp at hc
    ·rename_i hnd
     have hnd' : cDst vs o.dst ≠ .n := by intro e; rw [e] at hnd; simp [isN] at hnd
     simp only [Option.map_eq_some_iff] at hc
     obtain ⟨p, hp, rfl⟩ := hc
     exact s2b_sound hE nm ho hf hop hnd' hu hu' he hp hs hk
   ·simp at hc
  ·rename_i e hu hu'
   split at hc
   ·rename_i he
    simp only [Option.map_eq_some_iff] at hc
    obtain ⟨p, hp, rfl⟩ := hc
    exact b2s_sound hE nm ho hf hop hu he hu' hp hs hk
   ·simp at hc
  ·simp at hc
 ·rename_i x i hop
  simp only [Option.map_eq_some_iff] at hc
  obtain ⟨p, hp, rfl⟩ := hc
  exact extract_sound hE nm ho hf hop hp hs hk
 ·rename_i b args ts hop
  split at hc
  ·simp at hc
  ·rename_i hnd
   have hnd' : cDst vs o.dst ≠ .n := by intro e; rw [e] at hnd; simp [isN] at hnd
   obtain ⟨args⟩ := args
   obtain ⟨ts⟩ := ts
   unfold cBuiltin at hc
   split at hc
   ·rename_i x t rest hb hargs hts
    simp only at hargs hts
    subst hargs hts
    split at hc
    ·rename_i hu
     simp only [Option.map_eq_some_iff] at hc
     obtain ⟨p, hp, rfl⟩ := hc
     exact len_sound hE nm ho hf hop rfl (str := true) (by simpa using hu) hp hs hk
    ·rename_i e hu
     simp only [Option.map_eq_some_iff] at hc
     obtain ⟨p, hp, rfl⟩ := hc
     exact len_sound hE nm ho hf hop rfl (str := false) (by simpa using ⟨e, hu⟩) hp hs hk
    ·simp at hc
   ·simp only [Option.map_eq_some_iff] at hc
    obtain ⟨p, hp, rfl⟩ := hc
    exact mm_sound (mx := false) hE nm ho hf hop hp hs hk
   ·simp only [Option.map_eq_some_iff] at hc
    obtain ⟨p, hp, rfl⟩ := hc
    exact mm_sound (mx := true) hE nm ho hf hop hp hs hk
   ·rename_i x t rest hb hargs hts
    simp only at hargs hts
    subst hargs hts
    split at hc
    ·rename_i e hu
     simp only [Option.map_eq_some_iff] at hc
     obtain ⟨p, hp, rfl⟩ := hc
     exact cap_sound hE nm ho hf hop rfl hu hp hs hk
    ·simp at hc
   ·rename_i s x t1 t2 hb hargs hts
    simp only at hargs hts
    subst hargs hts
    split at hc
    ·rename_i e e' hu hu'
     split at hc
     ·rename_i size z hn hz
      simp only [Option.bind_eq_some_iff, Option.map_eq_some_iff] at hc
      obtain ⟨p, hp, q, hq, rfl⟩ := hc
      exact append_sound hE nm ho hf hop hnd' hu hu' hn hz hp hq hs hk
     ·simp at hc
    ·rename_i e hu hu'
     split at hc
     ·rename_i z he hn hz hb1
      simp only [Option.bind_eq_some_iff, Option.map_eq_some_iff] at hc
      obtain ⟨p, hp, q, hq, rfl⟩ := hc
      exact appstr_sound hE nm ho hf hop hnd' hu hu' hn hz hb1 hp hq hs hk
     ·simp at hc
    ·simp at hc
   ·simp at hc
 ·rename_i f args ts hop
  simp only [Option.bind_eq_some_iff, Option.map_eq_some_iff] at hc
  obtain ⟨k, hk', ps, hps, rfl⟩ := hc
  split at hs
  ·split at hs
   ·simp [stuckOp, opv, rd, raw, cp] at hs
   ·rename_i hnd
    exact pcallx_sound hF hE nm ho (by intro e; rw [e] at hnd; simp [isN] at hnd) hf hcf hcL hop hk' hps hs hk
  ·exact pcall_sound hF hE nm ho hf hcf hcL hop hk' hps hs hk
 ·rename_i t args ts hop
  simp only [Option.bind_eq_some_iff, Option.map_eq_some_iff] at hc
  obtain ⟨p, hp, ps, hps, rfl⟩ := hc
  exact callv_sound hF hE nm ho hf hcf hcL hop hp hps hs hk
 ·simp at hc
end
end PI
set_option linter.unusedSimpArgs false
set_option linter.unusedVariables false
namespace PI
open Go Go.RowKit
section
variable {E : Env} {N : Nm} {w : World} {G : GS} {st : St} {a : Act} {vs : List Tmp} {P : Program} {ops : Array Oper}
variable {o : Oper} {j : Nat} {Q : Exit → Act → World → Prop} {st1 : St}
abbrev Next1 (N : Nm) (w : World) (G : GS) (a : Act) (st1 : St) (vs : List Tmp) (ops : List Oper) (K : Act → World → Prop) : Prop :=
 ∀ a' w' G', FI N w' G' st1 a' vs (lmap vs ops) → Ext w G w' G' → a'.tmps.size = a.tmps.size → K a' w'
theorem step1_sound {L : Nat → Option PFunc} (hF : FnsOK N P L) (hE : EnvOk E N) (hP : E.P = P) (nm : Names vs (lmap vs ops.toList)) (ho : ops[j]? = some o) (hf : FI N w G st a vs (lmap vs ops.toList)) {cf : CallF} (hcf : CallOK N P cf)
  (hcL : ∀ k args h r, cf k args h = some r → ∃ f, L k = some f) {po : PO} (hc : cOper E vs ops.toList o = some po) (hs : step1 cf j po st = some st1) {K : Act → World → Prop} (hk : Next1 N w G a st1 vs ops.toList K) : wpOp P ops Q j K a w := by
 have ho' : ops.toList[j]? = some o := by simpa using ho
 simp only [cOper, Option.map_eq_some_iff] at hc
 obtain ⟨g, hg, rfl⟩ := hc
 generalize hpd : (cOp E vs ops.toList o).getD stuckOp = p at hs
 unfold wpOp
 simp only [ho]
 have run : ∀ {st1}, (opv cf p st).map (fun r => put r.2 j (cDst vs o.dst) r.1) = some st1 → Next1 N w G a st1 vs ops.toList K → o.wp P a w K Q := by
  intro st1 h hk
  simp only [Option.map_eq_some_iff] at h
  obtain ⟨⟨u, st2⟩, h1, rfl⟩ := h
  cases hcp : cOp E vs ops.toList o with
  | none =>
    rw [hcp] at hpd
    simp only [Option.getD_none] at hpd
    subst hpd
    simp [stuckOp, opv, rd, raw, cp] at h1
  | some p' =>
    rw [hcp] at hpd
    simp only [Option.getD_some] at hpd
    subst hpd
    exact op_sound hF hE hP nm ho' hf hcf hcL hcp h1 hk
 unfold cGuard at hg
 split at hg
 ·rename_i hgn
  simp at hg; subst hg
  simp only [step1] at hs
  rw [if_pos (by simp [Region.wanted, hgn])]
  exact .inl (run hs hk)
 ·rename_i jj want hgs
  split at hg
  ·rename_i og hog
   split at hg
   ·rename_i t ht
    simp only [Option.map_eq_some_iff] at hg
    obtain ⟨px, hpx, rfl⟩ := hg
    simp only [step1] at hs
    split at hs
    ·rename_i b hb
     have hev := (rd_sound hE hpx hf hb).1
     have hev' : a.eval (.tmp t) = .bool b := by generalize a.eval (.tmp t) = z at hev; cases hev; rfl
     have hy : yielded ops a.tmps jj = some b := by
      have h1 : ops[jj]? = some og := by simpa using hog
      have h2 : a.tmps[t]? = some (.bool b) := by
       simp only [Act.eval, Array.getD_eq_getD_getElem?] at hev'
       cases h : a.tmps[t]? with
       | none => rw [h] at hev'; simp [undef] at hev'
       | some z => rw [h] at hev'; simpa using hev'
      simp [yielded, h1, ht, h2]
     have hw : Region.wanted o (yielded ops a.tmps) = (b == want) := by
      simp [Region.wanted, hgs, hy]
     rw [hw]
     split at hs
     ·rename_i hbw
      rw [if_pos (by simpa using hbw)]
      exact .inl (run hs hk)
     ·rename_i hbw
      rw [if_neg (by simpa using hbw)]
      simp at hs; subst hs
      exact hk _ _ G (hf.put nm (cDst_ok ho') (.tuple #[] [] rfl (by intro i c p h _; simp at h))) (Ext.refl _ _) (put_size _ _ _)
    ·rename_i hb
     have hev := (rd_sound hE hpx hf hb).1
     have hev' : a.eval (.tmp t) = .tuple #[] := by
      generalize a.eval (.tmp t) = z at hev
      cases hev with
      | tuple cs _ hlen _ => simp at hlen; rw [hlen]
     have hy : yielded ops a.tmps jj = none := by
      have h1 : ops[jj]? = some og := by simpa using hog
      simp only [Act.eval, Array.getD_eq_getD_getElem?] at hev'
      cases h : a.tmps[t]? with
      | none => simp [yielded, h1, ht, h]
      | some z => rw [h] at hev'; simp at hev'; subst hev'; simp [yielded, h1, ht, h]
     have hw : Region.wanted o (yielded ops a.tmps) = false := by
      simp [Region.wanted, hgs, hy]
     rw [hw]
     simp at hs; subst hs
     exact hk _ _ G (hf.put nm (cDst_ok ho') (.tuple #[] [] rfl (by intro i c p h _; simp at h))) (Ext.refl _ _) (put_size _ _ _)
    ·simp at hs
   ·simp at hg
  ·simp at hg
theorem Next1.trans {w' : World} {G' : GS} {a' : Act} {K : Act → World → Prop} {vs' : List Tmp} {ops' : List Oper} (h : Next1 N w G a st1 vs' ops' K) (e : Ext w G w' G') (hs : a'.tmps.size = a.tmps.size) : Next1 N w' G' a' st1 vs' ops' K :=
 fun a2 w2 G2 h1 h2 h3 => h a2 w2 G2 h1 (e.trans h2) (h3.trans hs)
theorem cOpers_get : ∀ {os : List Oper} {pos : List PO} {ops : List Oper}, cOpers E vs ops os = some pos → os.length = pos.length ∧ ∀ (i : Nat) (o : Oper), os[i]? = some o → ∃ p, pos[i]? = some p ∧ cOper E vs ops o = some p
 | [], pos, ops, h => by simp [cOpers] at h; subst h; simp
 | o :: os, pos, ops, h => by
   simp only [cOpers, Option.bind_eq_some_iff, Option.map_eq_some_iff] at h
   obtain ⟨p, hp, ps, hps, rfl⟩ := h
   obtain ⟨h1, h2⟩ := cOpers_get hps
   refine ⟨by simp [h1], ?_⟩
   intro i o' ho'
   cases i with
   | zero => simp at ho'; subst ho'; exact ⟨p, rfl, hp⟩
   | succ i => simpa using h2 i o' (by simpa using ho')
noncomputable def execL (cf : CallF) (pos : List PO) : List Nat → St → Option St
 | [], st => some st
 | i :: l, st =>
   match pos[i]? with
   | some p => (step1 cf i p st).bind (execL cf pos l)
   | none => none
theorem execFrom_L {cf : CallF} {all : List PO} : ∀ {pos : List PO} {j : Nat} {st : St}, all.drop j = pos → execFrom cf j pos st = execL cf all (List.range' j pos.length) st
 | [], j, st, _ => by simp [execFrom, execL]
 | p :: pos, j, st, h => by
   have h1 : all[j]? = some p := by
    have := congrArg List.head? h; simpa [List.head?_drop] using this
   have h2 : all.drop (j + 1) = pos := by have := congrArg List.tail h; simpa [List.tail_drop] using this
   simp only [execFrom, List.length_cons, List.range'_succ, execL, h1]
   congr 1
   funext st'
   exact execFrom_L h2
theorem opsL_sound {L : Nat → Option PFunc} (hF : FnsOK N P L) (hE : EnvOk E N) (hP : E.P = P) (nm : Names vs (lmap vs ops.toList)) {cf : CallF} (hcf : CallOK N P cf)
  (hcL : ∀ k args h r, cf k args h = some r → ∃ f, L k = some f) {pos : List PO} (hc : cOpers E vs ops.toList ops.toList = some pos) :
  ∀ {l : List Nat} {st st' : St} {w : World} {G : GS} {a : Act}, execL cf pos l st = some st' → FI N w G st a vs (lmap vs ops.toList) → Next1 N w G a st' vs ops.toList (Q .normal) → wpOps P ops Q l a w
 | [], st, st', w, G, a, h, hf, hk => by
   simp [execL] at h; subst h
   exact hk _ _ G hf (Ext.refl _ _) rfl
 | i :: l, st, st', w, G, a, h, hf, hk => by
   simp only [execL] at h
   split at h
   ·rename_i p hp
    simp only [Option.bind_eq_some_iff] at h
    obtain ⟨st1, h1, h2⟩ := h
    have hlt : i < ops.toList.length := by rw [(cOpers_get hc).1]; exact (List.getElem?_eq_some_iff.1 hp).1
    obtain ⟨p', hp', hcp⟩ := (cOpers_get hc).2 i ops.toList[i] (List.getElem?_eq_getElem hlt)
    have : p' = p := by rw [hp] at hp'; simpa using hp'.symm
    subst this
    rw [wpOps_cons]
    refine step1_sound hF hE hP nm (o := ops.toList[i]) (by simp) hf hcf hcL hcp h1 ?_
    intro a' w' G' hf' he hs
    exact opsL_sound hF hE hP nm hcf hcL hc h2 hf' (hk.trans he hs)
   ·simp at h
end
theorem idxIn_of {t : Tmp} {vs : List Tmp} {i : Nat} (h : vs[i]? = some t) : ∀ n, (idxIn t vs n).isSome = true := by
 induction vs generalizing i with
 | nil => simp at h
 | cons x xs ih =>
   intro n
   simp only [idxIn]
   split
   ·rfl
   ·rename_i hne
    cases i with
    | zero => simp at h; exact absurd h hne
    | succ i => exact ih (by simpa using h) (n + 1)
theorem once_spec {vs : List Tmp} : ∀ {ops : List Oper}, onceIn vs ops = true → ∀ (j j' : Nat) (o o' : Oper) (t : Tmp), ops[j]? = some o → ops[j']? = some o' → o.dst = some t → o'.dst = some t → (idxIn t vs 0).isSome = false → j = j'
 | [], _, j, _, _, _, _, h, _, _, _, _ => by simp at h
 | x :: xs, h, j, j', o, o', t, h1, h2, h3, h4, h5 => by
   simp only [onceIn, Bool.and_eq_true] at h
   obtain ⟨ha, hb⟩ := h
   have key : ∀ (m : Nat) (p : Oper), xs[m]? = some p → x.dst = some t → p.dst ≠ some t := by
    intro m p hm hx
    rw [hx] at ha
    simp only [h5, Bool.false_or, List.all_eq_true, bne_iff_ne, ne_eq] at ha
    exact ha p (List.mem_of_getElem? hm)
   cases j with
   | zero =>
     simp at h1; subst h1
     cases j' with
     | zero => rfl
     | succ m => exact absurd h4 (key m o' (by simpa using h2) h3)
   | succ m =>
     cases j' with
     | zero => simp at h2; subst h2; exact absurd h3 (key m o (by simpa using h1) h4)
     | succ m' => rw [once_spec hb m m' o o' t (by simpa using h1) (by simpa using h2) h3 h4 h5]
theorem names_ok {vs : List Tmp} {ops : List Oper} (hn : vs.Nodup) (ho : onceIn vs ops = true) : Names vs (lmap vs ops) := by
 have sp : ∀ j t, lmap vs ops j = some t → ∃ o, ops[j]? = some o ∧ o.dst = some t ∧ (idxIn t vs 0).isSome = false := by
  intro j t h
  unfold lmap at h
  split at h
  ·rename_i o ho
   split at h
   ·rename_i t' ht'
    split at h
    ·simp at h
    ·rename_i hi
     simp at h; subst h
     exact ⟨o, ho, ht', by simpa using hi⟩
   ·simp at h
  ·simp at h
 refine ⟨?_, ?_, ?_⟩
 ·intro i i' t h1 h2
  obtain ⟨hi, e1⟩ := List.getElem?_eq_some_iff.1 h1
  obtain ⟨hi', e2⟩ := List.getElem?_eq_some_iff.1 h2
  exact (List.getElem_inj hn).1 (e1.trans e2.symm)
 ·intro j t i h1 h2
  obtain ⟨o, _, _, h3⟩ := sp j t h1
  have := idxIn_of h2 0
  rw [h3] at this; simp at this
 ·intro j j' t h1 h2
  obtain ⟨o, a1, a2, a3⟩ := sp j t h1
  obtain ⟨o', b1, b2, _⟩ := sp j' t h2
  exact once_spec ho j j' o o' t a1 b1 a2 b2 a3
end PI
set_option linter.unusedSimpArgs false
set_option linter.unusedVariables false
namespace PI
open Go Go.RowKit
abbrev SimG (p : PO) (st st' : St) : Prop := Sim p.op (readsG p) st st'
theorem reads_sub (p : PO) : ∀ x ∈ readsOf p.op, x ∈ readsG p := fun x hx => by simp only [readsG, List.mem_append]; exact .inr hx
theorem takes_sub (o : POp) : ∀ x ∈ takesOf o, x ∈ readsOf o := by
 intro x hx
 cases o with
 | h o => cases o <;> simp [takesOf, readsOf, readsOfH] at hx ⊢; exact .inl hx
 | take y => simpa [takesOf, readsOf] using hx
 | append a b c d => simp [takesOf, readsOf] at hx ⊢; exact .inl hx
 | appstr a b => simp [takesOf, readsOf] at hx ⊢; exact .inl hx
 | pcallx k xs own =>
   cases own with
   | none => simp [takesOf] at hx
   | some i => simp only [takesOf, Option.mem_toList] at hx; exact List.mem_of_getElem? hx
 | _ => simp [takesOf] at hx
theorem step1_dm {cf : CallF} {j : Nat} {p : PO} {st st1 : St} (hm : memOf p.op ≠ 2) (h : step1 cf j p st = some st1) :
  ∃ (d : Dm) (u : PV), st1 = put (d.app st) j p.dst u ∧ Fits p.op d ∧ ∀ st', SimG p st st' → step1 cf j p st' = some (put (d.app st') j p.dst u) := by
 have run : (opv cf p.op st).map (fun r => put r.2 j p.dst r.1) = some st1 → ∃ (d : Dm) (u : PV), st1 = put (d.app st) j p.dst u ∧ Fits p.op d ∧ ∀ st', SimG p st st' → (opv cf p.op st').map (fun r => put r.2 j p.dst r.1) = some (put (d.app st') j p.dst u) := by
  intro h
  simp only [Option.map_eq_some_iff] at h
  obtain ⟨⟨u, st2⟩, h1, rfl⟩ := h
  obtain ⟨d, e, hf, hs⟩ := opv_dm (rs := readsG p) hm (reads_sub p) h1
  exact ⟨d, u, by rw [e], hf, fun st' hsim => by rw [hs st' hsim]; rfl⟩
 unfold step1 at h
 split at h
 ·rename_i hg
  obtain ⟨d, u, h1, h2, h3⟩ := run h
  exact ⟨d, u, h1, h2, fun st' hs => by simp only [step1, hg]; exact h3 st' hs⟩
 ·rename_i x want hg
  have hx : x ∈ readsG p := by simp [readsG, hg]
  split at h
  ·rename_i b hb
   split at h
   ·rename_i hbw
    obtain ⟨d, u, h1, h2, h3⟩ := run h
    refine ⟨d, u, h1, h2, fun st' hs => ?_⟩
    have hb' : rd st' x = some (.bool b) := by rw [← hs.rd hx]; exact hb
    simp only [step1, hg, hb', if_pos hbw]
    exact h3 st' hs
   ·rename_i hbw
    simp only [Option.some.injEq] at h; subst h
    refine ⟨.none, .tuple [], rfl, trivial, fun st' hs => ?_⟩
    have hb' : rd st' x = some (.bool b) := by rw [← hs.rd hx]; exact hb
    simp only [step1, hg, hb', if_neg hbw]
    rfl
  ·rename_i hb
   simp only [Option.some.injEq] at h; subst h
   refine ⟨.none, .tuple [], rfl, trivial, fun st' hs => ?_⟩
   have hb' : rd st' x = some (.tuple []) := by rw [← hs.rd hx]; exact hb
   simp only [step1, hg, hb']
   rfl
  ·simp at h
theorem raw_put {st : St} {j : Nat} {d : PD} {u : PV} {x : PX} (h : isX d j x = false) : raw (put st j d u) x = raw st x := by
 cases d <;> cases x <;> simp [isX, sameX] at h <;> simp only [put, raw] <;> first | rfl | (rw [List.getElem?_set]; simp [h])
theorem vw_dem (v : PV) : vw (dem v) = vw v := by cases v <;> rfl
theorem vw_demCell (off : Nat) (v : PV) : vw (demCell off v) = vw v := by cases v <;> rfl
theorem raw_shut1 {y x : PX} (st : St) (h : sameX y x = false) : raw (shut1 y st) x = raw st x := by
 cases y with
 | v i =>
   cases x with
   | v k => simp [sameX] at h; simp [shut1, raw, List.getElem?_modify, h]
   | _ => rfl
 | _ => cases x <;> rfl
theorem raw_shuts : ∀ {xs : List PX} {x : PX} (st : St), (∀ y ∈ xs, sameX y x = false) → raw (shuts xs st) x = raw st x
 | [], _, _, _ => rfl
 | y :: xs, x, st, h => by
   simp only [shuts]
   rw [raw_shuts (xs := xs) _ (fun z hz => h z (List.mem_cons_of_mem _ hz)), raw_shut1 st (h y (List.mem_cons_self ..))]
theorem shuts_heap : ∀ (xs : List PX) (st : St), (shuts xs st).heap = st.heap
 | [], _ => rfl
 | x :: xs, st => by simp only [shuts]; rw [shuts_heap xs]; cases x <;> rfl
theorem shuts_setHeap : ∀ (xs : List PX) (st : St) (h : List PObj), shuts xs { st with heap := h } = { shuts xs st with heap := h }
 | [], _, _ => rfl
 | x :: xs, st, h => by
   simp only [shuts]
   rw [← shuts_setHeap xs]
   cases x <;> rfl
theorem raw_app_vw (d : Dm) (st : St) (x : PX) (hsh : ∀ xs, d = .shut xs → ∀ y ∈ xs, sameX y x = false) : (raw (d.app st) x).map vw = (raw st x).map vw := by
 cases d with
 | none => rfl
 | heap h => cases x <;> rfl
 | shut xs => simp only [Dm.app]; rw [raw_shuts st (hsh xs rfl)]
 | src y =>
   cases y with
   | c p => rfl
   | v i =>
     cases x with
     | v k =>
       simp only [Dm.app, raw, List.getElem?_modify]
       cases st.vars[k]? <;> simp
       split <;> simp [vw_dem]
     | _ => rfl
   | l i =>
     cases x with
     | l k =>
       simp only [Dm.app, raw, List.getElem?_modify]
       cases st.locs[k]? <;> simp
       split <;> simp [vw_dem]
     | _ => rfl
 | cell s off =>
   cases x with
   | v k =>
     simp only [Dm.app, raw, List.getElem?_modify]
     cases st.vars[k]? <;> simp
     split <;> simp [vw_demCell]
   | _ => rfl
theorem raw_app_own {o : POp} {d : Dm} (hd : Fits o d) (st : St) (x : PX) (hx : ∀ y ∈ takesOf o, sameX y x = false) (hsh : ∀ xs, d = .shut xs → ∀ y ∈ xs, sameX y x = false) (es : List PV) : raw (d.app st) x = some (.list true es) ↔ raw st x = some (.list true es) := by
 cases d with
 | none => exact Iff.rfl
 | heap h => cases x <;> exact Iff.rfl
 | shut xs => simp only [Dm.app]; rw [raw_shuts st (hsh xs rfl)]
 | src y =>
   have hy := hx y hd
   cases y with
   | c p => exact Iff.rfl
   | v i =>
     cases x with
     | v k => simp [sameX] at hy; simp [Dm.app, raw, List.getElem?_modify, hy]
     | _ => exact Iff.rfl
   | l i =>
     cases x with
     | l k => simp [sameX] at hy; simp [Dm.app, raw, List.getElem?_modify, hy]
     | _ => exact Iff.rfl
 | cell s off =>
   cases x with
   | v k =>
     simp only [Dm.app, raw, List.getElem?_modify]
     cases hv : st.vars[k]? with
     | none => simp
     | some v =>
       simp only [Option.map_some, Option.some.injEq]
       split
       ·cases v <;> simp [demCell]
       ·simp
   | _ => exact Iff.rfl
theorem dem_dem (v : PV) : dem (dem v) = dem v := by cases v <;> rfl
theorem map_dem_modify (cs : List PV) (off : Nat) : (cs.modify off dem).map dem = cs.map dem := by
 apply List.ext_getElem?
 intro k
 simp only [List.getElem?_map, List.getElem?_modify]
 cases cs[k]? <;> simp
 split <;> simp [dem_dem]
theorem app_loc {o : POp} {d : Dm} (hd : Fits o d) (st : St) (exact : Bool) (he : exact = true → memOf o ≠ 3) (h4 : memOf o ≠ 4) : LocEq exact st (d.app st) ∧ LocEq exact (d.app st) st := by
 have same : ∀ (st st' : St), (∀ s : Nat, ∀ g cs, st.vars[s]? = some (.loc g cs) → st'.vars[s]? = some (.loc g cs)) → LocEq exact st st' := fun st st' h s g cs hs => ⟨cs, h s g cs hs, rfl, fun _ => rfl⟩
 cases d with
 | none => exact ⟨same _ _ (fun _ _ _ h => h), same _ _ (fun _ _ _ h => h)⟩
 | heap h => exact ⟨same _ _ (fun _ _ _ h => h), same _ _ (fun _ _ _ h => h)⟩
 | shut xs => exact absurd hd.1 h4
 | src y =>
   cases y with
   | c p => exact ⟨same _ _ (fun _ _ _ h => h), same _ _ (fun _ _ _ h => h)⟩
   | l i => exact ⟨same _ _ (fun _ _ _ h => h), same _ _ (fun _ _ _ h => h)⟩
   | v i =>
     refine ⟨same _ _ ?_, same _ _ ?_⟩
     ·intro s g cs h
      simp only [Dm.app, List.getElem?_modify, h, Option.map_some]
      split <;> rfl
     ·intro s g cs h
      simp only [Dm.app, List.getElem?_modify] at h
      cases hv : st.vars[s]? with
      | none => simp [hv] at h
      | some v =>
        rw [hv] at h
        simp only [Option.map_eq_map, Option.map_some, Option.some.injEq] at h
        split at h
        ·have : v = .loc g cs := by cases v <;> simp_all [dem]
         rw [this]
        ·rw [h]
 | cell s off =>
   have h3 : memOf o = 3 := hd
   have hne : exact = false := by
    cases exact with
    | false => rfl
    | true => exact absurd h3 (he rfl)
   subst hne
   refine ⟨?_, ?_⟩
   ·intro k g cs h
    simp only [Dm.app, List.getElem?_modify, h, Option.map_some]
    split
    ·exact ⟨cs.modify off dem, rfl, map_dem_modify cs off, by simp⟩
    ·exact ⟨cs, rfl, rfl, by simp⟩
   ·intro k g cs h
    simp only [Dm.app, List.getElem?_modify] at h
    cases hv : st.vars[k]? with
    | none => simp [hv] at h
    | some v =>
      rw [hv] at h
      simp only [Option.map_eq_map, Option.map_some, Option.some.injEq] at h
      split at h
      ·have : ∃ cs0, v = .loc g cs0 ∧ cs0.modify off dem = cs := by cases v <;> simp_all [demCell]
       obtain ⟨cs0, rfl, rfl⟩ := this
       exact ⟨_, rfl, (map_dem_modify _ off).symm, by simp⟩
      ·exact ⟨cs, by rw [h], rfl, by simp⟩
structure Comm (jp : Nat) (p : PO) (jq : Nat) (q : PO) : Prop where
 mp : memOf p.op ≠ 2
 mq : memOf q.op ≠ 2
 mm : ¬ (memOf p.op = 3 ∧ memOf q.op = 3)
 pq : ∀ x ∈ readsG q, isX p.dst jp x = false
 pv : isV p.dst = true → memOf q.op = 0
 qp : ∀ x ∈ readsG p, isX q.dst jq x = false
 qv : isV q.dst = true → memOf p.op = 0
 dd : sameD p.dst q.dst = false
 tt : ∀ x ∈ takesOf p.op, ∀ y ∈ takesOf q.op, sameX x y = false
 m4 : memOf p.op = 4 → memOf q.op = 0
 n4 : memOf q.op = 4 → memOf p.op = 0
 h2 : heapOf p.op = 2 → heapOf q.op = 0
 k2 : heapOf q.op = 2 → heapOf p.op = 0
 sp : ∀ x ∈ shutsOf p.op, ∀ y ∈ readsG q, sameX x y = false
 sq : ∀ x ∈ shutsOf q.op, ∀ y ∈ readsG p, sameX x y = false
theorem sameX_symm (x y : PX) : sameX x y = sameX y x := by cases x <;> cases y <;> simp [sameX] <;> exact Bool.beq_comm
theorem sameD_symm (x y : PD) : sameD x y = sameD y x := by cases x <;> cases y <;> simp [sameD] <;> exact Bool.beq_comm
theorem comm_spec {jp jq : Nat} {p q : PO} (h : comm jp p jq q = true) : Comm jp p jq q := by
 simp only [comm, apart, Bool.and_eq_true, Bool.not_eq_true', bne_iff_ne, ne_eq, List.all_eq_true, Bool.or_eq_true, beq_iff_eq, Bool.and_eq_false_iff, beq_eq_false_iff_ne, bne_eq_false_iff_eq, List.any_eq_false] at h
 obtain ⟨⟨⟨⟨⟨⟨⟨⟨⟨⟨⟨⟨h1, h2⟩, h3⟩, a1⟩, a2⟩, a3⟩, a4⟩, a5⟩, a6⟩, h4, h5⟩, h6, h7⟩, h8⟩, h9⟩ := h
 have neg : ∀ {a b : Nat} {c : Nat}, (¬ a = c ∨ b = 0) → a = c → b = 0 := by
  intro a b c h e
  rcases h with h | h
  ·exact absurd e h
  ·exact h
 refine ⟨h1, h2, ?_, h4, ?_, h6, ?_, h8, ?_, neg a1, neg a2, neg a3, neg a4, ?_, ?_⟩
 ·rintro ⟨a, b⟩; rcases h3 with h3 | h3
  ·exact h3 a
  ·exact h3 b
 ·intro hv; rcases h5 with h5 | h5
  ·rw [hv] at h5; simp at h5
  ·exact h5
 ·intro hv; rcases h7 with h7 | h7
  ·rw [hv] at h7; simp at h7
  ·exact h7
 ·intro x hx y hy
  simpa using h9 x hx y hy
 ·intro x hx y hy
  simpa using a5 x hx y hy
 ·intro x hx y hy
  simpa using a6 x hx y hy
theorem Comm.symm {jp jq : Nat} {p q : PO} (h : Comm jp p jq q) : Comm jq q jp p :=
 ⟨h.mq, h.mp, fun ⟨a, b⟩ => h.mm ⟨b, a⟩, h.qp, h.qv, h.pq, h.pv, by rw [sameD_symm]; exact h.dd, fun x hx y hy => by rw [sameX_symm]; exact h.tt y hy x hx, h.n4, h.m4, h.k2, h.h2, h.sq, h.sp⟩
theorem shuts_get : ∀ (xs : List PX) (st : St) (s : Nat), (∀ y ∈ xs, sameX y (.v s) = false) → (shuts xs st).vars[s]? = st.vars[s]?
 | [], _, _, _ => rfl
 | x :: xs, st, s, h => by
   simp only [shuts]
   rw [shuts_get xs _ s (fun y hy => h y (by simp [hy]))]
   have := h x (by simp)
   cases x with
   | v i =>
     have hne : ¬ i = s := by simpa [sameX] using this
     simp only [shut1, List.getElem?_modify, if_neg hne]
     cases st.vars[s]? <;> rfl
   | l i => rfl
   | c p => rfl
theorem slot_app {o : POp} {d : Dm} (hd : Fits o d) (st : St) (s : Nat) (hsh : ∀ xs, d = .shut xs → ∀ y ∈ xs, sameX y (.v s) = false) : SlotEq s st (d.app st) ∧ SlotEq s (d.app st) st := by
 have by_loc : memOf o ≠ 4 → SlotEq s st (d.app st) ∧ SlotEq s (d.app st) st := by
  intro h4
  obtain ⟨h1, h2⟩ := app_loc hd st false (by simp) h4
  exact ⟨fun g cs h => let ⟨cs', a, b, _⟩ := h1 s g cs h; ⟨cs', a, b⟩, fun g cs h => let ⟨cs', a, b, _⟩ := h2 s g cs h; ⟨cs', a, b⟩⟩
 cases d with
 | none => exact ⟨fun g cs h => ⟨cs, h, rfl⟩, fun g cs h => ⟨cs, h, rfl⟩⟩
 | heap h => exact ⟨fun g cs h => ⟨cs, h, rfl⟩, fun g cs h => ⟨cs, h, rfl⟩⟩
 | shut xs =>
   have := shuts_get xs st s (hsh xs rfl)
   exact ⟨fun g cs h => ⟨cs, by simp only [Dm.app]; rw [this]; exact h, rfl⟩, fun g cs h => ⟨cs, by simp only [Dm.app] at h; rw [this] at h; exact h, rfl⟩⟩
 | src y =>
   refine by_loc ?_
   have hy : y ∈ takesOf o := hd
   intro h4
   cases o <;> simp [takesOf] at hy <;> simp [memOf] at h4
   case h o => cases o <;> simp [takesOf] at hy <;> simp [memOf] at h4
   all_goals (try (split at h4 <;> simp at h4))
 | cell s' off =>
   refine by_loc ?_
   have h3 : memOf o = 3 := hd
   omega
theorem sim_change {jp jq : Nat} {p q : PO} (hc : Comm jp p jq q) {d : Dm} (hd : Fits p.op d) (st : St) (u : PV) : SimG q st (put (d.app st) jp p.dst u) ∧ SimG q (put (d.app st) jp p.dst u) st := by
 have hsh : ∀ x ∈ readsG q, ∀ xs, d = .shut xs → ∀ y ∈ xs, sameX y x = false := by
  intro x hx xs e y hy
  subst e
  exact hc.sp y (hd.2 ▸ hy) x hx
 have hreads : ∀ x ∈ readsG q, (raw st x).map vw = (raw (put (d.app st) jp p.dst u) x).map vw := fun x hx => by
  rw [raw_put (hc.pq x hx), raw_app_vw d st x (hsh x hx)]
 have htakes : ∀ x ∈ takesOf q.op, ∀ es, raw st x = some (.list true es) ↔ raw (put (d.app st) jp p.dst u) x = some (.list true es) := fun x hx es => by
  rw [raw_put (hc.pq x (reads_sub q x (takes_sub _ x hx))), raw_app_own hd st x (fun y hy => hc.tt y hy x hx) (hsh x (reads_sub q x (takes_sub _ x hx)))]
 have hmem : 1 ≤ memOf q.op → LocEq (memOf q.op == 3) st (put (d.app st) jp p.dst u) ∧ LocEq (memOf q.op == 3) (put (d.app st) jp p.dst u) st := fun h1 => by
  have hv : (put (d.app st) jp p.dst u).vars = (d.app st).vars := by
   cases hd : p.dst with
   | v i => have := hc.pv (by rw [hd]; rfl); omega
   | l => rfl
   | n => rfl
  have := app_loc hd st (memOf q.op == 3) (fun he h3 => hc.mm ⟨h3, by simpa using he⟩) (fun h4 => by have := hc.m4 h4; omega)
  unfold LocEq at this ⊢
  rw [hv]
  exact this
 have hheap : 1 ≤ heapOf q.op → (put (d.app st) jp p.dst u).heap = st.heap := by
  intro h1
  have hp : (put (d.app st) jp p.dst u).heap = (d.app st).heap := by cases p.dst <;> rfl
  rw [hp]
  cases d with
  | none => rfl
  | src y => cases y <;> rfl
  | cell s off => rfl
  | heap h => have := hc.h2 hd; omega
  | shut xs => exact shuts_heap xs st
 have hslot : ∀ s, slotOf q.op = some s → SlotEq s st (put (d.app st) jp p.dst u) ∧ SlotEq s (put (d.app st) jp p.dst u) st := by
  intro s hs
  have hx : PX.v s ∈ readsG q := by
   refine reads_sub q _ ?_
   cases hq : q.op <;> rw [hq] at hs <;> simp [slotOf] at hs
   subst hs
   simp [readsOf]
  have hp : (put (d.app st) jp p.dst u).vars[s]? = (d.app st).vars[s]? := by
   have h1 := hc.pq _ hx
   cases hd' : p.dst with
   | v i =>
     rw [hd'] at h1
     have hne : ¬ i = s := by simpa [isX, sameX] using h1
     simp only [put, List.getElem?_set, if_neg hne]
   | l => rfl
   | n => rfl
  obtain ⟨h1, h2⟩ := slot_app hd st s (fun xs e y hy => hsh _ hx xs e y hy)
  refine ⟨fun g cs h => ?_, fun g cs h => ?_⟩
  ·obtain ⟨cs', a, b⟩ := h1 g cs h
   exact ⟨cs', by rw [hp]; exact a, b⟩
  ·rw [hp] at h
   exact h2 g cs h
 exact ⟨⟨hreads, htakes, fun h => (hmem h).1, hheap, hslot⟩, ⟨fun x hx => (hreads x hx).symm, fun x hx es => (htakes x hx es).symm, fun h => (hmem h).2, fun h => (hheap h).symm, fun s hs => (hslot s hs).symm⟩⟩
theorem modify_comm (l : List PV) (i k : Nat) (f g : PV → PV) (h : i = k → ∀ v, f (g v) = g (f v)) : (l.modify i f).modify k g = (l.modify k g).modify i f := by
 apply List.ext_getElem?
 intro m
 simp only [List.getElem?_modify, Option.map_eq_map, Option.map_map]
 cases l[m]? with
 | none => rfl
 | some v =>
   simp only [Option.map_some, Function.comp]
   by_cases h1 : i = m <;> by_cases h2 : k = m <;> simp [h1, h2]
   exact (h (by omega) v).symm
theorem dem_demCell (off : Nat) (v : PV) : dem (demCell off v) = demCell off (dem v) := by cases v <;> rfl
theorem shutV_dem (v : PV) : shutV (dem v) = dem (shutV v) := by cases v <;> rfl
theorem shutV_demCell (off : Nat) (v : PV) : shutV (demCell off v) = demCell off (shutV v) := by
 cases v <;> simp [demCell, shutV, map_dem_modify]
theorem shut1_src (x y : PX) (st : St) : shut1 x ((Dm.src y).app st) = (Dm.src y).app (shut1 x st) := by
 cases x <;> cases y <;> (try simp only [Dm.app, shut1]) <;> (try rfl)
 rw [modify_comm]; intro _ v; exact (shutV_dem v).symm
theorem shut1_cell (x : PX) (s off : Nat) (st : St) : shut1 x ((Dm.cell s off).app st) = (Dm.cell s off).app (shut1 x st) := by
 cases x <;> (try simp only [Dm.app, shut1]) <;> (try rfl)
 rw [modify_comm]; intro _ v; exact (shutV_demCell off v).symm
theorem shuts_src : ∀ (xs : List PX) (y : PX) (st : St), shuts xs ((Dm.src y).app st) = (Dm.src y).app (shuts xs st)
 | [], _, _ => rfl
 | x :: xs, y, st => by simp only [shuts]; rw [shut1_src, shuts_src xs]
theorem shuts_cell : ∀ (xs : List PX) (s off : Nat) (st : St), shuts xs ((Dm.cell s off).app st) = (Dm.cell s off).app (shuts xs st)
 | [], _, _, _ => rfl
 | x :: xs, s, off, st => by simp only [shuts]; rw [shut1_cell, shuts_cell xs]
theorem app_app {o o' : POp} {d d' : Dm} (hd : Fits o d) (hd' : Fits o' d') (hm : ¬ (memOf o = 3 ∧ memOf o' = 3)) (h4 : memOf o = 4 → memOf o' = 0) (h2 : heapOf o = 2 → heapOf o' = 0) (st : St) : d.app (d'.app st) = d'.app (d.app st) := by
 cases d with
 | none => rfl
 | heap h =>
   cases d' with
   | none => rfl
   | src y => cases y <;> rfl
   | cell s off => rfl
   | heap h' =>
     have a := h2 hd
     have b : heapOf o' = 2 := hd'
     omega
   | shut xs => exact (shuts_setHeap xs st h).symm
 | shut xs =>
   cases d' with
   | none => rfl
   | src y => exact shuts_src xs y st
   | cell s off => exact shuts_cell xs s off st
   | heap h' => exact shuts_setHeap xs st h'
   | shut ys =>
     have a := h4 hd.1
     have b : memOf o' = 4 := hd'.1
     omega
 | src y =>
   cases d' with
   | heap h' => cases y <;> rfl
   | shut xs => exact (shuts_src xs y st).symm
   | none => rfl
   | src y' =>
     cases y <;> cases y' <;> (try simp only [Dm.app]) <;> (try rfl) <;> (rw [modify_comm]; intro _ v; rfl)
   | cell s off =>
     cases y <;> (try simp only [Dm.app]) <;> (try rfl)
     rw [modify_comm]; intro _ v; exact (dem_demCell off v).symm
 | cell s off =>
   cases d' with
   | heap h' => rfl
   | shut xs => exact (shuts_cell xs s off st).symm
   | none => rfl
   | src y' =>
     cases y' <;> (try simp only [Dm.app]) <;> (try rfl)
     rw [modify_comm]; intro _ v; exact dem_demCell off v
   | cell s' off' => exact absurd ⟨hd, hd'⟩ hm
theorem set_modify (l : List PV) (i k : Nat) (f : PV → PV) (u : PV) (h : i ≠ k) : (l.set i u).modify k f = (l.modify k f).set i u := by
 apply List.ext_getElem?
 intro m
 simp only [List.getElem?_modify, List.getElem?_set, List.length_modify]
 by_cases h1 : i = m
 ·subst h1
  have : ¬ k = i := fun e => h e.symm
  simp [this]
 ·simp [h1]
theorem shut1_put {x : PX} {j : Nat} {d : PD} (st : St) (u : PV) (h : isX d j x = false) : shut1 x (put st j d u) = put (shut1 x st) j d u := by
 cases x with
 | v k =>
   cases d with
   | v i => simp [isX, sameX] at h; simp only [shut1, put]; rw [set_modify _ _ _ _ _ h]
   | _ => rfl
 | _ => cases d <;> rfl
theorem shuts_put : ∀ {xs : List PX} {j : Nat} {d : PD} (st : St) (u : PV), (∀ x ∈ xs, isX d j x = false) → shuts xs (put st j d u) = put (shuts xs st) j d u
 | [], _, _, _, _, _ => rfl
 | x :: xs, j, d, st, u, h => by
   simp only [shuts]
   rw [shut1_put st u (h x (List.mem_cons_self ..)), shuts_put _ _ (fun y hy => h y (List.mem_cons_of_mem _ hy))]
theorem shuts_sub (o : POp) : ∀ x ∈ shutsOf o, x ∈ readsOf o := by
 intro x hx
 cases o with
 | h o => cases o <;> simp [shutsOf, readsOf, readsOfH] at hx ⊢; exact hx
 | _ => simp [shutsOf] at hx
theorem app_put {p : PO} {q : PO} {jp jq : Nat} (hc : Comm jp p jq q) {d : Dm} (hd : Fits p.op d) (st : St) (u : PV) : d.app (put st jq q.dst u) = put (d.app st) jq q.dst u := by
 cases d with
 | none => rfl
 | heap h => cases q.dst <;> rfl
 | shut xs => exact shuts_put st u (fun x hx => hc.qp x (reads_sub p x (shuts_sub _ x (hd.2 ▸ hx))))
 | src y =>
   have hy := hc.qp y (reads_sub p y (takes_sub _ y hd))
   cases hq : q.dst with
   | n => rfl
   | v i =>
     rw [hq] at hy
     cases y with
     | c z => rfl
     | l k => rfl
     | v k => simp [isX, sameX] at hy; simp only [Dm.app, put]; rw [set_modify _ _ _ _ _ hy]
   | l =>
     rw [hq] at hy
     cases y with
     | c z => rfl
     | v k => rfl
     | l k => simp [isX, sameX] at hy; simp only [Dm.app, put]; rw [set_modify _ _ _ _ _ hy]
 | cell s off =>
   cases hq : q.dst with
   | n => rfl
   | l => rfl
   | v i =>
     have h0 := hc.qv (by rw [hq]; rfl)
     have h3 : memOf p.op = 3 := hd
     omega
theorem put_put {jp jq : Nat} {d d' : PD} (hj : jp ≠ jq) (h : sameD d d' = false) (st : St) (u u' : PV) : put (put st jp d u) jq d' u' = put (put st jq d' u') jp d u := by
 cases d <;> cases d' <;> simp [sameD] at h <;> simp only [put] <;> (try rfl)
 ·rw [List.set_comm _ _ h]
 ·rw [List.set_comm _ _ hj]
theorem swap {cf : CallF} {jp jq : Nat} {p q : PO} (hj : jp ≠ jq) (hc : Comm jp p jq q) {st st1 st2 : St} (h1 : step1 cf jp p st = some st1) (h2 : step1 cf jq q st1 = some st2) :
  ∃ st1', step1 cf jq q st = some st1' ∧ step1 cf jp p st1' = some st2 := by
 obtain ⟨d, u, e1, f1, s1⟩ := step1_dm hc.mp h1
 obtain ⟨d', u', e2, f2, s2⟩ := step1_dm hc.mq h2
 subst e1
 have hq := s2 st (sim_change hc f1 st u).2
 refine ⟨_, hq, ?_⟩
 have hp := s1 _ (sim_change hc.symm f2 st u').1
 rw [hp, e2]
 congr 1
 rw [app_put hc f1, app_put hc.symm f2, app_app f1 f2 hc.mm hc.m4 hc.h2]
 exact put_put (fun e => hj e.symm) (by rw [sameD_symm]; exact hc.dd) _ _ _
theorem execL_front {cf : CallF} {pos : List PO} {i : Nat} {q : PO} (hi : pos[i]? = some q) {post : List Nat} : ∀ {pre : List Nat} {st st' : St}, (∀ j ∈ pre, j ≠ i ∧ ∀ p, pos[j]? = some p → Comm j p i q) →
  execL cf pos (pre ++ i :: post) st = some st' → execL cf pos (i :: (pre ++ post)) st = some st'
 | [], st, st', _, h => h
 | j :: pre, st, st', hc, h => by
   simp only [List.cons_append, execL] at h
   split at h
   ·rename_i p hp
    simp only [Option.bind_eq_some_iff] at h
    obtain ⟨st1, h1, h2⟩ := h
    have ih := execL_front hi (fun j' hj' => hc j' (by simp [hj'])) h2
    simp only [execL, hi, Option.bind_eq_some_iff] at ih
    obtain ⟨st2, h3, h4⟩ := ih
    obtain ⟨hj, hcm⟩ := hc j (by simp)
    obtain ⟨st1', h5, h6⟩ := swap hj (hcm p hp) h1 h3
    simp only [List.cons_append, execL, hi, hp, h5, Option.bind_some, h6]
    exact h4
   ·simp at h
inductive Pre (ops : Array Oper) : Nat → Nat → Prop where
 | edge {i : Nat} {o : Oper} {e : Edge} (ho : ops[i]? = some o) (he : e ∈ o.after) (hb : Region.binds .any e = true) : Pre ops e.on i
 | far {i j : Nat} {o : Oper} {e : Edge} (ho : ops[i]? = some o) (he : e ∈ o.after) (hb : Region.binds .any e = true) (h : Pre ops j e.on) : Pre ops j i
def force {α : Type} (m : Nat) (f : Nat → α) : α :=
 match m with
 | 0 => f 0
 | n + 1 => f (n + 1)
theorem force_eq {α : Type} (m : Nat) (f : Nat → α) : force m f = f m := by cases m <;> rfl
def wide : Nat := 1024
def rowOf (M : Nat) : List Edge → Nat → Nat
 | [], m => m
 | e :: es, m => if Region.binds .any e then force (m ||| 1 <<< e.on ||| M >>> (e.on * 1024) % 2 ^ wide) (rowOf M es) else rowOf M es m
def rows : List Oper → Nat → Nat → Nat
 | [], _, M => M
 | o :: os, i, M => force (M ||| (rowOf M o.after.toList 0 % 2 ^ wide) <<< (i * 1024)) (rows os (i + 1))
def GoodM (ops : Array Oper) (M : Nat) : Prop := ∀ i j, j < 1024 → M.testBit (i * 1024 + j) = true → Pre ops j i
theorem rowOf_ok {ops : Array Oper} {M : Nat} (hM : GoodM ops M) {i : Nat} {o : Oper} (ho : ops[i]? = some o) : ∀ (es : List Edge) (m : Nat), (∀ e ∈ es, e ∈ o.after) → (∀ j, j < 1024 → m.testBit j = true → Pre ops j i) → ∀ j, j < 1024 → (rowOf M es m).testBit j = true → Pre ops j i
 | [], m, _, hm => hm
 | e :: es, m, hes, hm => by
   intro j hj h
   simp only [rowOf] at h
   split at h
   ·rename_i hb
    rw [force_eq] at h
    refine rowOf_ok hM ho es _ (fun x hx => hes x (by simp [hx])) ?_ j hj h
    intro k hk hk2
    simp only [Nat.testBit_or, Bool.or_eq_true] at hk2
    rcases hk2 with (hk2 | hk2) | hk2
    ·exact hm k hk hk2
    ·rw [Nat.one_shiftLeft, Nat.testBit_two_pow] at hk2
     have : e.on = k := by simpa using hk2
     exact this ▸ Pre.edge ho (hes e (by simp)) hb
    ·rw [Nat.testBit_mod_two_pow, Nat.testBit_shiftRight] at hk2
     simp only [Bool.and_eq_true] at hk2
     exact Pre.far ho (hes e (by simp)) hb (hM e.on k hk hk2.2)
   ·exact rowOf_ok hM ho es m (fun x hx => hes x (by simp [hx])) hm j hj h
theorem rows_ok {ops : Array Oper} : ∀ (os : List Oper) (i M : Nat), (∀ k, os[k]? = ops[i + k]?) → GoodM ops M → GoodM ops (rows os i M)
 | [], _, _, _, hM => hM
 | o :: os, i, M, hs, hM => by
   simp only [rows, force_eq]
   have ho : ops[i]? = some o := by simpa using (hs 0).symm
   refine rows_ok os (i + 1) _ (fun k => by have := hs (k + 1); simp only [List.getElem?_cons_succ] at this; rw [this]; congr 1; omega) ?_
   intro a j hj h
   simp only [Nat.testBit_or, Bool.or_eq_true] at h
   rcases h with h | h
   ·exact hM a j hj h
   ·rw [Nat.testBit_shiftLeft, Nat.testBit_mod_two_pow] at h
    simp only [Bool.and_eq_true, decide_eq_true_eq] at h
    obtain ⟨h1, h2, h3⟩ := h
    have hw : wide = 1024 := rfl
    have ha : a = i := by omega
    subst ha
    rw [Nat.add_sub_cancel_left] at h3
    exact rowOf_ok hM ho o.after.toList 0 (by simp) (by simp) j hj h3
def pairOk (M : Nat) (pos : List PO) (i j : Nat) : Bool :=
 (match pos[j]?, pos[i]? with
 | some p, some q => comm j p i q
 | _, _ => false) || (decide (j < 1024) && M.testBit (i * 1024 + j))
def orderM (ops : Array Oper) (pos : List PO) (M : Nat) : Bool :=
 (List.range ops.size).all fun i => (match ops[i]? with | some o => o.after.all (fun e => !Region.binds .any e || decide (e.on < i)) | none => true) && (List.range i).all (pairOk M pos i)
def orderOk (ops : Array Oper) (pos : List PO) : Bool := force (rows ops.toList 0 0) (orderM ops pos)
def Closed (ops : Array Oper) (listed : Array Bool) : Prop :=
 ∀ (k : Nat) (o : Oper), ops[k]? = some o → listed.getD k false = true → ∀ e ∈ o.after, Region.binds .any e = true → listed.getD e.on false = true
theorem pred_listed {ops : Array Oper} {listed : Array Bool} (hcl : Closed ops listed) {j i : Nat} (h : Pre ops j i) : ∀ {o : Oper}, ops[i]? = some o → (∀ e ∈ o.after, Region.binds .any e = true → listed.getD e.on false = true) → listed.getD j false = true := by
 induction h with
 | edge ho he hb => intro o ho' hl; rw [ho] at ho'; cases ho'; exact hl _ he hb
 | @far i j o1 e ho he hb hp ih =>
   intro o ho' hl; rw [ho] at ho'; cases ho'
   have hon := hl _ he hb
   cases h' : ops[e.on]? with
   | none => exfalso; cases hp with
     | edge h1 => rw [h'] at h1; cases h1
     | far h1 => rw [h'] at h1; cases h1
   | some o' => exact ih h' (hcl e.on o' h' hon)
def remOf (n : Nat) (listed : Array Bool) : List Nat := (List.range n).filter fun i => !listed.getD i false
theorem filter_split {l : List Nat} {f : Nat → Bool} {i : Nat} (hs : l.Pairwise (· < ·)) (hi : i ∈ l) (hf : f i = true) :
  ∃ pre post, l.filter f = pre ++ i :: post ∧ (∀ j ∈ pre, j < i ∧ j ∈ l ∧ f j = true) ∧ l.filter (fun k => f k && k != i) = pre ++ post := by
 induction l with
 | nil => simp at hi
 | cons x xs ih =>
   rw [List.pairwise_cons] at hs
   rcases List.mem_cons.1 hi with rfl | hi
   ·refine ⟨[], xs.filter f, by simp [hf], by simp, ?_⟩
    simp only [List.filter_cons, hf, bne_self_eq_false, Bool.and_false, Bool.false_eq_true, if_false, List.nil_append]
    apply List.filter_congr
    intro k hk
    have : k ≠ i := fun e => by have := hs.1 k hk; omega
    simp [this]
   ·obtain ⟨pre, post, h1, h2, h3⟩ := ih hs.2 hi
    have hlt := hs.1 i hi
    have hne : (x != i) = true := by simp; omega
    by_cases hx : f x = true
    ·refine ⟨x :: pre, post, by simp [hx, h1], ?_, by simp [List.filter_cons, hx, hne, h3]⟩
     intro j hj
     rcases List.mem_cons.1 hj with rfl | hj
     ·exact ⟨hlt, by simp, hx⟩
     ·obtain ⟨a, b, c⟩ := h2 j hj
      exact ⟨a, by simp [b], c⟩
    ·refine ⟨pre, post, by simp [hx, h1], ?_, by simp [List.filter_cons, hx, h3]⟩
     intro j hj
     obtain ⟨a, b, c⟩ := h2 j hj
     exact ⟨a, by simp [b], c⟩
section
variable {E : Env} {N : Nm} {vs : List Tmp} {P : Program} {ops : Array Oper} {Q : Exit → Act → World → Prop}
theorem any_sound {L : Nat → Option PFunc} (hF : FnsOK N P L) (hE : EnvOk E N) (hP : E.P = P) (nm : Names vs (lmap vs ops.toList)) {cf : CallF} (hcf : CallOK N P cf)
  (hcL : ∀ k args h r, cf k args h = some r → ∃ f, L k = some f) {pos : List PO} (hc : cOpers E vs ops.toList ops.toList = some pos) (hord : orderOk ops pos = true) :
  ∀ (fuel : Nat) {listed : Array Bool} {st st' : St} {w : World} {G : GS} {a : Act}, listed.size = ops.size → (remOf ops.size listed).length ≤ fuel → Closed ops listed → execL cf pos (remOf ops.size listed) st = some st' →
    FI N w G st a vs (lmap vs ops.toList) → Next1 N w G a st' vs ops.toList (Q .normal) → wpAny P .any ops Q fuel listed a w := by
 have hlen : ops.size = pos.length := by have := (cOpers_get hc).1; simpa using this
 have hGM : GoodM ops (rows ops.toList 0 0) := rows_ok _ _ _ (by simp) (fun i j _ h => by simp at h)
 have hord : orderM ops pos (rows ops.toList 0 0) = true := by rw [orderOk, force_eq] at hord; exact hord
 have hedge : ∀ i o, ops[i]? = some o → ∀ e ∈ o.after, Region.binds .any e = true → e.on < i := by
  intro i o ho e he hb
  have hi : i < ops.size := (Array.getElem?_eq_some_iff.1 ho).1
  have := List.all_eq_true.1 hord i (by simpa using hi)
  simp only [ho, Bool.and_eq_true, Array.all_eq_true_iff_forall_mem] at this
  have := this.1 e he
  simpa [hb] using this
 have hpair : ∀ i j, i < ops.size → j < i → pairOk (rows ops.toList 0 0) pos i j = true := by
  intro i j hi hj
  have := List.all_eq_true.1 hord i (by simpa using hi)
  simp only [Bool.and_eq_true] at this
  exact List.all_eq_true.1 this.2 j (by simpa using hj)
 have hready : ∀ {listed : Array Bool}, listed.size = ops.size → Region.ready .any ops listed = [] → remOf ops.size listed = [] := by
  intro listed hsz hr
  rcases List.eq_nil_or_concat (remOf ops.size listed) with h | ⟨_, _, h⟩
  ·exact h
  ·exfalso
   cases hrem : remOf ops.size listed with
   | nil => rw [hrem] at h; simp at h
   | cons m rest =>
     have hm : m ∈ remOf ops.size listed := by rw [hrem]; simp
     simp only [remOf, List.mem_filter, List.mem_range, Bool.not_eq_true'] at hm
     have hsort : (remOf ops.size listed).Pairwise (· < ·) := List.Pairwise.filter _ List.pairwise_lt_range
     rw [hrem, List.pairwise_cons] at hsort
     have hmr : m ∈ Region.ready .any ops listed := by
      rw [mem_ready]
      refine ⟨?_, ops[m], by simp [hm.1], ?_⟩
      ·have := hm.2
       simp only [Array.getD_eq_getD_getElem?] at this ⊢
       have hlt : m < listed.size := by omega
       simpa [hlt] using this
      ·intro e he hb
       have hlt := hedge m ops[m] (by simp [hm.1]) e he hb
       cases hl : listed.getD e.on false with
       | true => rfl
       | false =>
         have hin : e.on ∈ remOf ops.size listed := by
          simp only [remOf, List.mem_filter, List.mem_range, hl, Bool.not_false, and_true]
          omega
         rw [hrem] at hin
         rcases List.mem_cons.1 hin with h | h
         ·omega
         ·have := hsort.1 _ h; omega
     rw [hr] at hmr
     simp at hmr
 intro fuel
 induction fuel with
 | zero =>
   intro listed st st' w G a hsz hl hcl hx hf hk
   have h0 : remOf ops.size listed = [] := List.length_eq_zero_iff.1 (by omega)
   rw [h0] at hx
   simp [execL] at hx; subst hx
   refine ⟨?_, hk _ _ G hf (Ext.refl _ _) rfl⟩
   refine List.eq_nil_iff_forall_not_mem.2 fun i hi => ?_
   rw [mem_ready] at hi
   obtain ⟨hi1, o, ho, _⟩ := hi
   have hlt : i < ops.size := (Array.getElem?_eq_some_iff.1 ho).1
   have : i ∈ remOf ops.size listed := by
    simp only [remOf, List.mem_filter, List.mem_range, hlt, true_and]
    have hl' : i < listed.size := by omega
    simp only [Array.getD_eq_getD_getElem?] at hi1 ⊢
    simpa [hl'] using hi1
   rw [h0] at this
   simp at this
 | succ fuel ih =>
   intro listed st st' w G a hsz hl hcl hx hf hk
   refine ⟨?_, ?_⟩
   ·intro hr
    rw [hready hsz hr] at hx
    simp [execL] at hx; subst hx
    exact hk _ _ G hf (Ext.refl _ _) rfl
   ·intro i hi
    rw [mem_ready] at hi
    obtain ⟨hi1, o, ho, hpre⟩ := hi
    have hlt : i < ops.size := (Array.getElem?_eq_some_iff.1 ho).1
    have hun : listed.getD i false = false := by
     have hl' : i < listed.size := by omega
     simp only [Array.getD_eq_getD_getElem?] at hi1 ⊢
     simpa [hl'] using hi1
    obtain ⟨q, hq, hcq⟩ := (cOpers_get hc).2 i o (by simpa using ho)
    obtain ⟨pre, post, e1, e2, e3⟩ := filter_split (f := fun k => !listed.getD k false) (List.pairwise_lt_range (n := ops.size)) (by simpa using hlt) (by simp only [hun]; rfl)
    have hx' : execL cf pos (i :: (pre ++ post)) st = some st' := by
     refine execL_front hq ?_ (by rw [← e1]; exact hx)
     intro j hj
     obtain ⟨a1, a2, a3⟩ := e2 j hj
     refine ⟨by omega, fun p hp => ?_⟩
     have hpo := hpair i j hlt a1
     simp only [pairOk, hp, hq, Bool.or_eq_true] at hpo
     rcases hpo with h | h
     ·exact comm_spec h
     ·simp only [Bool.and_eq_true, decide_eq_true_eq] at h
      have := pred_listed hcl (hGM i j h.1 h.2) ho hpre
      simp only [this] at a3
      simp at a3
    simp only [execL, hq, Option.bind_eq_some_iff] at hx'
    obtain ⟨st1, hs1, hs2⟩ := hx'
    refine step1_sound hF hE hP nm ho hf hcf hcL hcq hs1 ?_
    intro a' w' G' hf' he hsize
    have hrem : remOf ops.size (listed.setIfInBounds i true) = pre ++ post := by
     rw [← e3]
     unfold remOf
     apply List.filter_congr
     intro k hk'
     by_cases hki : k = i
     ·subst hki
      have hl' : k < listed.size := by omega
      simp [Array.getD_eq_getD_getElem?, Array.getElem?_setIfInBounds, hl']
     ·rw [getD_set_ne _ (Ne.symm hki)]
      simp [hki]
    refine ih (by simp [hsz]) ?_ ?_ (by rw [hrem]; exact hs2) hf' (hk.trans he hsize)
    ·rw [hrem]
     have : (remOf ops.size listed).length = (pre ++ i :: post).length := by unfold remOf; rw [e1]
     simp at this ⊢
     omega
    ·intro k o' ho' hk1 e he' hb
     by_cases hki : k = i
     ·subst hki
      have : o' = o := by rw [ho] at ho'; simpa using ho'.symm
      subst this
      exact getD_set_true (hpre e he' hb)
     ·rw [getD_set_ne _ (Ne.symm hki)] at hk1
      exact getD_set_true (hcl k o' ho' hk1 e he' hb)
end
end PI
set_option linter.unusedSimpArgs false
set_option linter.unusedVariables false
namespace PI
open Go
def W (r : Option Nat) : Fence := { Fence.wide with round := r }
section
variable {P : Program} {r : Option Nat} {n : Nat} {ops : Array Oper} {Q : Exit → Act → World → Prop}
theorem W_fn (f : FuncId) : (W r).fn f := trivial
theorem W_room (k : Nat) : (W r).room k := fun d h => by simp [W, Fence.wide] at h
theorem W_depth : (W r).depth.isSome = true → 1 ≤ n := fun h => by simp [W, Fence.wide] at h
theorem callsW {f : FuncId} {args : Array Value} {w : World} {R : Ending → World → Prop} (h : Calls P f args w R) : CallsIn (W r) n P f args w R := (callsIn_wide (n := n)).2 h
theorem calls_of_W {f : FuncId} {args : Array Value} {w : World} {R : Ending → World → Prop} (h : CallsIn (W r) n P f args w R) : Calls P f args w R := (callsIn_wide (n := n)).1 h
theorem rowsW {row : String} {args : Array Value} {w : World} {R : Value → World → Prop} (h : Rows P row args w R) : RowsIn (W r) n P row args w R :=
 fun c cs _ => let ⟨v, w', hr, hs⟩ := h c cs; ⟨v, w', hr, stepsIn_wide.2 hs⟩
theorem opIn_of {o : Oper} {a : Act} {w : World} {K : Act → World → Prop} (hd : ∀ c, o.op ≠ .defer c) (h : o.wp P a w K Q) : o.wpIn (W r) n P a w K Q := by
 refine ⟨fun _ _ => W_fn _, ?_⟩
 rw [Oper.semAt_eq _ _ _ hd]
 unfold Oper.wp at h
 generalize (execOp a.eval o).run P w = res at h
 cases res with
 | ok x w' =>
   cases x <;> simp only [Oper.upon] at h <;> simp only [Oper.uponIn] <;> first | exact h | exact ⟨W_depth, callsW h⟩ | exact ⟨W_depth, rowsW h⟩ | exact h.elim
 | halt x w' => cases x <;> simp only [Oper.upon] at h <;> simp only [Oper.uponIn] <;> first | exact h | exact h.elim
theorem wpOpIn_of {i : Nat} {a : Act} {w : World} {K : Act → World → Prop} (hd : ∀ o c, ops[i]? = some o → o.op ≠ .defer c) (hQ : ¬ LetsOut Q) (h : wpOp P ops Q i K a w) : wpOpIn (W r) n P ops Q i K a w := by
 unfold wpOp at h
 unfold wpOpIn
 split
 ·rename_i ho; simp only [ho] at h; exact h
 ·rename_i o ho
  simp only [ho] at h
  split
  ·rename_i hw
   simp only [hw, if_true] at h
   rcases h with h | h
   ·exact opIn_of (fun c => hd o c ho) h
   ·exact absurd h.2 hQ
  ·rename_i hw
   simp only [hw] at h
   exact ⟨fun _ _ => W_fn _, h⟩
theorem wpOpsIn_of (hd : ∀ (i : Nat) o c, ops[i]? = some o → o.op ≠ .defer c) (hQ : ¬ LetsOut Q) : ∀ {l : List Nat} {a : Act} {w : World}, wpOps P ops Q l a w → wpOpsIn (W r) n P ops Q l a w
 | [], _, _, h => h
 | i :: l, a, w, h => by
   rw [wpOps_cons] at h
   rw [wpOpsIn_cons]
   exact wpOpIn_mono (fun a w h => wpOpsIn_of hd hQ h) (wpOpIn_of (fun o c => hd i o c) hQ h)
def roundPostP (P : Program) (l : Nat) (R : Ending → World → Prop) : Exit → Act → World → Prop
 | .normal, _, w => ∃ v w', (Instr.endRound l none).run P w = .ok v w' ∧ R (.returned v) w'
 | .ret, _, w => ∃ v w', (Instr.endRound l (some .ret)).run P w = .ok v w' ∧ R (.returned v) w'
 | .exit id, _, w => ∃ v w', (Instr.endRound l (some (.exit id))).run P w = .ok v w' ∧ R (.returned v) w'
 | .panic chain, a, w => a.defers = [] ∧ R (.panicked chain) w
 | _, _, _ => False
theorem fencedW (m : Machine) : m.fenced P (W r) := fenced_wide P m
theorem step_round_panic {fr c : Frame} {cs : List Frame} {w : World} {chain : List PanicEntry} {fn : Func} (hm : fr.mode = .panicking chain) (hd : fr.defers = []) (hf : P.funcs[fr.fn]? = some fn) :
  step P (lone fr (c :: cs) w) = .next (lone (c.raise chain) cs w) :=
 step_lone_go (by simp [stepG, unwind, Frame.catches, hm, hd, hf])
end
end PI
set_option linter.unusedSimpArgs false
set_option linter.unusedVariables false
namespace PI
open Go
noncomputable def brunL (cf : CallF) (ob : OutF) (pos : List PO) : List Nat → St → Option (Option PV × St)
 | [], st => some (none, st)
 | i :: l, st =>
   match pos[i]? with
   | some p => match bstep cf ob i p st with
     | some (none, st) => brunL cf ob pos l st
     | r => r
   | none => none
section
variable {cf : CallF} {ob : OutF} {pos : List PO}
theorem bstep_plain {j : Nat} {p : PO} {st : St} (h : isB p = false) : bstep cf ob j p st = (step1 cf j p st).map fun st => (none, st) := by
 unfold bstep
 unfold isB at h
 split
 ·rename_i h1 h2; rw [h1] at h; simp at h
 ·rename_i h1 h2; rw [h1] at h; simp at h
 ·rename_i h1 h2; rw [h1] at h; simp at h
 ·rename_i h1 h2; rw [h1] at h; simp at h
 ·rfl
theorem brunL_plain : ∀ {l : List Nat} {st : St}, (∀ i ∈ l, ∀ p, pos[i]? = some p → isB p = false) → brunL cf ob pos l st = (execL cf pos l st).map fun st => (none, st)
 | [], st, _ => rfl
 | i :: l, st, h => by
   simp only [brunL, execL]
   cases hp : pos[i]? with
   | none => rfl
   | some p =>
     simp only [bstep_plain (h i (by simp) p hp)]
     cases step1 cf i p st with
     | none => rfl
     | some st1 => simpa using brunL_plain (fun j hj => h j (by simp [hj]))
theorem brunL_append : ∀ (l1 l2 : List Nat) (st : St), brunL cf ob pos (l1 ++ l2) st = match brunL cf ob pos l1 st with
  | some (none, st) => brunL cf ob pos l2 st
  | r => r
 | [], l2, st => rfl
 | i :: l1, l2, st => by
   simp only [List.cons_append, brunL]
   cases hp : pos[i]? with
   | none => rfl
   | some p =>
     simp only
     cases bstep cf ob i p st with
     | none => rfl
     | some x =>
       obtain ⟨y, st1⟩ := x
       cases y with
       | none => exact brunL_append l1 l2 st1
       | some v => rfl
theorem brun_L {all : List PO} : ∀ {os : List PO} {j : Nat} {st : St}, all.drop j = os → brun cf ob j os st = brunL cf ob all (List.range' j os.length) st
 | [], j, st, _ => rfl
 | o :: os, j, st, h => by
   have hj : all[j]? = some o := by
    have := congrArg List.head? h
    simpa [List.head?_drop] using this
   have ht : all.drop (j + 1) = os := by
    have := congrArg List.tail h
    simpa [List.tail_drop] using this
   simp only [brun, List.length_cons, List.range'_succ, brunL, hj]
   cases bstep cf ob j o st with
   | none => rfl
   | some x =>
     obtain ⟨y, st1⟩ := x
     cases y with
     | none => exact brun_L ht
     | some v => rfl
theorem brunL_front {i : Nat} {q : PO} (hi : pos[i]? = some q) {pre post : List Nat} {st : St} {r : Option PV × St} (hb : pre ≠ [] → isB q = false) (hpre : ∀ j ∈ pre, ∀ p, pos[j]? = some p → isB p = false)
  (hc : ∀ j ∈ pre, j ≠ i ∧ ∀ p, pos[j]? = some p → Comm j p i q) (h : brunL cf ob pos (pre ++ i :: post) st = some r) : brunL cf ob pos (i :: (pre ++ post)) st = some r := by
 cases pre with
 | nil => exact h
 | cons j0 pre0 =>
   have hq : isB q = false := hb (by simp)
   generalize hpr : j0 :: pre0 = pre at *
   have e1 : pre ++ i :: post = (pre ++ [i]) ++ post := by simp
   have e2 : i :: (pre ++ post) = (i :: pre) ++ post := rfl
   have p1 : ∀ k ∈ pre ++ [i], ∀ p, pos[k]? = some p → isB p = false := by
    intro k hk p hp
    rcases List.mem_append.1 hk with hk | hk
    ·exact hpre k hk p hp
    ·simp at hk; subst hk; rw [hi] at hp; simp at hp; subst hp; exact hq
   have p2 : ∀ k ∈ i :: pre, ∀ p, pos[k]? = some p → isB p = false := by
    intro k hk p hp
    rcases List.mem_cons.1 hk with rfl | hk
    ·rw [hi] at hp; simp at hp; subst hp; exact hq
    ·exact hpre k hk p hp
   rw [e1, brunL_append, brunL_plain p1] at h
   rw [e2, brunL_append, brunL_plain p2]
   cases hx : execL cf pos (pre ++ [i]) st with
   | none => rw [hx] at h; simp at h
   | some st1 =>
     have := execL_front hi hc (post := []) hx
     rw [List.append_nil] at this
     rw [this]
     rw [hx] at h
     exact h
theorem isB_mem {p : PO} (h : isB p = true) : memOf p.op = 2 := by
 unfold isB at h
 split at h <;> first | (rename_i e; rw [e]; rfl) | simp at h
theorem comm_noB {i j : Nat} {p q : PO} (h : comm j p i q = true) : isB p = false ∧ isB q = false := by
 simp only [comm, Bool.and_eq_true, bne_iff_ne, ne_eq] at h
 obtain ⟨h1, h2⟩ := h.1.1.1.1.1.1.1.1.1.1.1
 exact ⟨by cases hp : isB p with | false => rfl | true => exact absurd (isB_mem hp) h1, by cases hp : isB q with | false => rfl | true => exact absurd (isB_mem hp) h2⟩
end
theorem lin_run {ops : Array Oper} {pos : List PO} {cf : CallF} {ob : OutF} (hlen : ops.size = pos.length) (hord : orderOk ops pos = true) :
  ∀ (fuel t : Nat) {listed : Array Bool} {st : St} {r : Option PV × St}, listed.size = ops.size → (remOf ops.size listed).length ≤ fuel → Closed ops listed → brunL cf ob pos (remOf ops.size listed) st = some r →
    brunL cf ob pos (Region.linearise.go .any ops fuel t listed []) st = some r := by
 have hGM : GoodM ops (rows ops.toList 0 0) := rows_ok _ _ _ (by simp) (fun i j _ h => by simp at h)
 have hord : orderM ops pos (rows ops.toList 0 0) = true := by rw [orderOk, force_eq] at hord; exact hord
 have hedge : ∀ i o, ops[i]? = some o → ∀ e ∈ o.after, Region.binds .any e = true → e.on < i := by
  intro i o ho e he hb
  have hi : i < ops.size := (Array.getElem?_eq_some_iff.1 ho).1
  have := List.all_eq_true.1 hord i (by simpa using hi)
  simp only [ho, Bool.and_eq_true, Array.all_eq_true_iff_forall_mem] at this
  have := this.1 e he
  simpa [hb] using this
 have hpair : ∀ i j, i < ops.size → j < i → pairOk (rows ops.toList 0 0) pos i j = true := by
  intro i j hi hj
  have := List.all_eq_true.1 hord i (by simpa using hi)
  simp only [Bool.and_eq_true] at this
  exact List.all_eq_true.1 this.2 j (by simpa using hj)
 have hready : ∀ {listed : Array Bool}, listed.size = ops.size → Region.ready .any ops listed = [] → remOf ops.size listed = [] := by
  intro listed hsz hr
  rcases List.eq_nil_or_concat (remOf ops.size listed) with h | ⟨_, _, h⟩
  ·exact h
  ·exfalso
   cases hrem : remOf ops.size listed with
   | nil => rw [hrem] at h; simp at h
   | cons m rest =>
     have hm : m ∈ remOf ops.size listed := by rw [hrem]; simp
     simp only [remOf, List.mem_filter, List.mem_range, Bool.not_eq_true'] at hm
     have hsort : (remOf ops.size listed).Pairwise (· < ·) := List.Pairwise.filter _ List.pairwise_lt_range
     rw [hrem, List.pairwise_cons] at hsort
     have hmr : m ∈ Region.ready .any ops listed := by
      rw [mem_ready]
      refine ⟨?_, ops[m], by simp [hm.1], ?_⟩
      ·have := hm.2
       simp only [Array.getD_eq_getD_getElem?] at this ⊢
       have hlt : m < listed.size := by omega
       simpa [hlt] using this
      ·intro e he hb
       have hlt := hedge m ops[m] (by simp [hm.1]) e he hb
       cases hl : listed.getD e.on false with
       | true => rfl
       | false =>
         have hin : e.on ∈ remOf ops.size listed := by
          simp only [remOf, List.mem_filter, List.mem_range, hl, Bool.not_false, and_true]
          omega
         rw [hrem] at hin
         rcases List.mem_cons.1 hin with h | h
         ·omega
         ·have := hsort.1 _ h; omega
     rw [hr] at hmr
     simp at hmr
 intro fuel
 induction fuel with
 | zero =>
   intro t listed st r hsz hl hcl hx
   have h0 : remOf ops.size listed = [] := List.length_eq_zero_iff.1 (by omega)
   rw [h0] at hx
   simpa [Region.linearise.go] using hx
 | succ fuel ih =>
   intro t listed st r hsz hl hcl hx
   simp only [Region.linearise.go]
   change brunL cf ob pos (match (Region.ready .any ops listed)[t % (Region.ready .any ops listed).length]? with
    | some i => Region.linearise.go .any ops fuel (t / (Region.ready .any ops listed).length) (listed.setIfInBounds i true) [i]
    | none => [].reverse) st = some r
   cases hi : (Region.ready .any ops listed)[t % (Region.ready .any ops listed).length]? with
   | none =>
     have hnil : Region.ready .any ops listed = [] := by
      cases hr : Region.ready .any ops listed with
      | nil => rfl
      | cons x xs =>
        rw [hr] at hi
        have hlt : t % (x :: xs).length < (x :: xs).length := Nat.mod_lt _ (by simp)
        simp at hi
        simp at hlt
        omega
     rw [hready hsz hnil] at hx
     simpa using hx
   | some i =>
     simp only []
     rw [linearise_go_acc, List.reverse_singleton, List.singleton_append]
     have hi := List.mem_of_getElem? hi
     rw [mem_ready] at hi
     obtain ⟨hi1, o, ho, hpre⟩ := hi
     have hlt : i < ops.size := (Array.getElem?_eq_some_iff.1 ho).1
     have hun : listed.getD i false = false := by
      have hl' : i < listed.size := by omega
      simp only [Array.getD_eq_getD_getElem?] at hi1 ⊢
      simpa [hl'] using hi1
     obtain ⟨q, hq⟩ : ∃ q, pos[i]? = some q := ⟨pos[i], List.getElem?_eq_getElem (by omega)⟩
     obtain ⟨pre, post, e1, e2, e3⟩ := filter_split (f := fun k => !listed.getD k false) (List.pairwise_lt_range (n := ops.size)) (by simpa using hlt) (by simp only [hun]; rfl)
     have hcm : ∀ j ∈ pre, j < i ∧ ∀ p, pos[j]? = some p → comm j p i q = true := by
      intro j hj
      obtain ⟨a1, a2, a3⟩ := e2 j hj
      refine ⟨by omega, fun p hp => ?_⟩
      have hpo := hpair i j hlt a1
      simp only [pairOk, hp, hq, Bool.or_eq_true] at hpo
      rcases hpo with h | h
      ·exact h
      ·simp only [Bool.and_eq_true, decide_eq_true_eq] at h
       have := pred_listed hcl (hGM i j h.1 h.2) ho hpre
       simp only [this] at a3
       simp at a3
     have hx' : brunL cf ob pos (i :: (pre ++ post)) st = some r := by
      refine brunL_front hq ?_ (fun j hj p hp => (comm_noB ((hcm j hj).2 p hp)).1) (fun j hj => ⟨by have := (hcm j hj).1; omega, fun p hp => comm_spec ((hcm j hj).2 p hp)⟩) (by rw [← e1]; exact hx)
      intro hne
      cases pre with
      | nil => exact absurd rfl hne
      | cons j0 _ =>
        have hj0 : j0 < pos.length := by have := (hcm j0 (by simp)).1; omega
        exact (comm_noB ((hcm j0 (by simp)).2 pos[j0] (List.getElem?_eq_getElem hj0))).2
     simp only [brunL, hq] at hx' ⊢
     cases hs : bstep cf ob i q st with
     | none => rw [hs] at hx'; exact hx'
     | some y =>
       obtain ⟨z, st1⟩ := y
       rw [hs] at hx'
       cases z with
       | some v => exact hx'
       | none =>
         simp only at hx' ⊢
         have hrem : remOf ops.size (listed.setIfInBounds i true) = pre ++ post := by
          rw [← e3]
          unfold remOf
          apply List.filter_congr
          intro k hk'
          by_cases hki : k = i
          ·subst hki
           have hl' : k < listed.size := by omega
           simp [Array.getD_eq_getD_getElem?, Array.getElem?_setIfInBounds, hl']
          ·rw [getD_set_ne _ (Ne.symm hki)]
           simp [hki]
         refine ih _ (by simp [hsz]) ?_ ?_ (by rw [hrem]; exact hx')
         ·rw [hrem]
          have : (remOf ops.size listed).length = (pre ++ i :: post).length := by unfold remOf; rw [e1]
          simp at this ⊢
          omega
         ·intro k o' ho' hk1 e he' hb
          by_cases hki : k = i
          ·subst hki
           have : o' = o := by rw [ho] at ho'; simpa using ho'.symm
           subst this
           exact getD_set_true (hpre e he' hb)
          ·rw [getD_set_ne _ (Ne.symm hki)] at hk1
           exact getD_set_true (hcl k o' ho' hk1 e he' hb)
end PI
