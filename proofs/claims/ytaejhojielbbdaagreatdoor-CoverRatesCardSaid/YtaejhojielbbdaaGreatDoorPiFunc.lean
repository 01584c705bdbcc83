/-
  The pure interpreter is right: functions.
-/
import Derived.Test.YtaejhojielbbdaaGreatDoorPiCodeT
import Derived.Test.YtaejhojielbbdaaGreatDoorPiDef
import Derived.Test.YtaejhojielbbdaaGreatDoorPiRun
set_option linter.unusedSimpArgs false
set_option linter.unusedVariables false
set_option linter.unusedSectionVars false
namespace PI
open Go Go.RowKit
def cRes (P : Program) (kp : Bool) (vs : List Tmp) : ResultVar → Option PRes
 | .tmp t => (idxIn t vs 0).map (if kp then .keep else .var)
 | .cell t ty => (idxIn t vs 0).bind fun i => (sizeT P ty).map fun n => .cell i n (isAggT P ty)
def cRess (P : Program) (kp : Bool) (vs : List Tmp) : List ResultVar → Option (List PRes)
 | [] => some []
 | r :: rs => (cRes P kp vs r).bind fun p => (cRess P kp vs rs).map (p :: ·)
/-- What is chosen, function by function. -/
structure Opts where
 hs : List Tmp := []
 hf : List FuncId := []
 hv : List Tmp := []
 rs : List TypeId := []
 bf : List FuncId := []
 bv : List Tmp := []
 lps : List (Array Tmp × Nat × List Tmp) := []
 sr : Bool := false
 /-- the nil slice is known to be nil; rows of the heap are given as they are -/
 nl : Bool := false
 kp : Bool := false
 /-- functions called with the room of an argument, if said, whose value keeps its room -/
 ox : List (FuncId × Option Nat) := []
 /-- functions whose calls leave the heap as it is -/
 rf : List FuncId := []
 /-- functions to which rows are lent -/
 lf : List FuncId := []
 /-- loads from boxes that variables hold are told apart -/
 lv : Bool := false
 /-- places of calls whose rows become lists -/
 zd : List Tmp := []
 fr : List Tmp := []
 pa : List TypeId := []
 pz : List FuncId := []
def Env.opt (E : Env) (o : Opts) : Env := { E with hs := o.hs, hf := o.hf, hv := o.hv, rs := o.rs, bf := o.bf, bv := o.bv, lps := o.lps, sr := o.sr, nl := o.nl, ox := o.ox, rf := o.rf, lf := o.lf, lv := o.lv, zd := o.zd, fr := o.fr, pa := o.pa, pz := o.pz }
theorem EnvOk.opt {E : Env} {N : Nm} (h : EnvOk E N) (o : Opts) : EnvOk (E.opt o) N := ⟨h.fn, h.yl, h.pt, h.bt⟩
/-- A function of the library stands in the program. -/
def FnC (E : Env) (N : Nm) (k : Nat) (pf : PFunc) (fn : Func) (vs : List Tmp) : Prop :=
 E.P.funcs[N.fn k]? = some fn ∧ fn.name ≠ "runtime.NumGoroutine" ∧ vs.Nodup ∧ (∀ t ∈ vs, t < fn.ntmps) ∧ vs.length = pf.nv ∧ pf.params ≤ pf.nv ∧ (∀ i, i < pf.params → vs[i]? = some i) ∧
  (∃ o : Opts, (fn.body.map fun c => compC (E.opt o) fn.ntmps vs c) = some pf.code ∧ (o.lps = [] ∨ ∀ c, fn.body = some c → LpOK (E.opt o) N fn.ntmps (N.fn k) c) ∧ cRess E.P o.kp vs fn.results.toList = some pf.results)
/-- A function of the library is taken by its contract. -/
def PrimOK (N : Nm) (P : Program) (k : Nat) (g : List PV → List PObj → Option (PV × List PObj)) : Prop :=
 ∀ (args : List PV) (r : PV) (h h' : List PObj), g args h = some (r, h') → ∀ (w : World) (G : GS) (vals : Array Value), Between N w G h → vals.size = args.length →
   (∀ (i : Nat) (v : Value) (p : PV), vals[i]? = some v → args[i]? = some p → VR N w G.fix G.heap v p) →
   Calls P (N.fn k) vals w fun e w' => ∃ v G', e = .returned v ∧ VR N w' G'.fix G'.heap v r ∧ Ext w G w' G' ∧ Between N w' G' h'
/-- A deferred closure is taken by its contract: run behind a return, or behind a panic, which it then recovers. -/
def DfrOK (N : Nm) (P : Program) (k : Nat) (g : List PV → List PObj → Option (List PObj)) : Prop :=
 ∀ (p : PV) (caps : List PV) (h h' : List PObj), g (p :: caps) h = some h' → ∀ (w : World) (G : GS) (vals : Array Value), Between N w G h → vals.size = caps.length →
   (∀ (i : Nat) (v : Value) (p : PV), vals[i]? = some v → caps[i]? = some p → VR N w G.fix G.heap v p) →
   ∀ u, (u = .returning ∧ p = .nilIface ∨ ∃ v, u = .panicking [{ v, recovered := false }] ∧ VR N w G.fix G.heap v p) →
   CallsDIn (W none) 0 P (N.fn k) vals u w fun e u' w' => (∃ v, e = .returned v) ∧ settle u' = .returning ∧ ∃ G', Ext w G w' G' ∧ Between N w' G' h'
/-- The rounds of a loop over a function. -/
structure RdC (E : Env) (N : Nm) (k : Nat) (pf : PFunc) (y : YL) (fn : Func) (vs : List Tmp) (o : Opts) (a b : PC) : Prop where
 yl : N.yl k = some y
 code : pf.code = .round a b
 ra : a.RO = true
 rb : b.RO = true
 prim : pf.prim = none
 dfr : pf.defer = none
 inP : E.P.funcs[y.fn]? = some fn
 no : N.fn k = y.fn
 name : fn.name ≠ "runtime.NumGoroutine"
 body : fn.body.isNone = false
 nd : vs.Nodup
 lt : ∀ t ∈ vs, t < y.nt
 len : vs.length = pf.nv
 params : pf.params = 1 + (y.vars.length + y.params.size)
 head : vs.take (y.vars.length + y.params.size) = y.vars ++ y.params.toList
 lps : o.lps = []
 ca : compC (E.opt o) y.nt vs y.assign = a
 cb : compC (E.opt o) y.nt vs y.body = b
/-- A function stands in the program: with its code, by its contract, or as a deferred closure. -/
def FnF (E : Env) (N : Nm) (k : Nat) (pf : PFunc) : Prop :=
 N.yl k = none ∧ pf.code.isRound = false ∧ pf.params < 1000 ∧
 ((pf.prim = none ∧ pf.defer = none ∧ ∃ fn vs, FnC E N k pf fn vs) ∨
 (∃ g fn, pf.prim = some g ∧ pf.defer = none ∧ E.P.funcs[N.fn k]? = some fn ∧ fn.name ≠ "runtime.NumGoroutine" ∧ fn.body.isNone = false ∧ PrimOK N E.P k g) ∨
 ∃ g fn, pf.prim = none ∧ pf.code = .exit 0 ∧ pf.defer = some g ∧ E.P.funcs[N.fn k]? = some fn ∧ fn.name ≠ "runtime.NumGoroutine" ∧ fn.body.isNone = false ∧ DfrOK N E.P k g)
/-- Or it is the rounds of a loop. -/
def FnS (E : Env) (N : Nm) (k : Nat) (pf : PFunc) : Prop := FnF E N k pf ∨ ∃ y fn vs o a b, RdC E N k pf y fn vs o a b
theorem FnS.plain {E : Env} {N : Nm} {k : Nat} {pf : PFunc} (h : FnS E N k pf) (hr : pf.code.isRound = false) : FnF E N k pf := by
 rcases h with h | ⟨y, fn, vs, o, a, b, h⟩
 ·exact h
 ·rw [h.code] at hr; simp [PC.isRound] at hr
theorem FnS.plainY {E : Env} {N : Nm} {k : Nat} {pf : PFunc} (h : FnS E N k pf) (hr : N.yl k = none) : FnF E N k pf := by
 rcases h with h | ⟨y, fn, vs, o, a, b, h⟩
 ·exact h
 ·rw [h.yl] at hr; simp at hr
/-! ### Rows of the heap that are given back -/
def shutNs (vars : List PV) : List PRes → List Nat
 | [] => []
 | r :: rs => resNos vars r ++ shutNs vars rs
theorem shutRes_get (vars : List PV) : ∀ (rs : List PRes) (h : List PObj) (n : Nat), (n ∈ shutNs vars rs → (shutRes vars rs h)[n]? = h[n]?.map (fun _ => .gone)) ∧ (n ∉ shutNs vars rs → (shutRes vars rs h)[n]? = h[n]?)
 | [], h, n => by simp [shutRes, shutNs]
 | r :: rs, h, n => by
   simp only [shutRes, shutNs]
   obtain ⟨i1, i2⟩ := shutRes_get vars rs (gones (resNos vars r) h) n
   obtain ⟨g1, g2⟩ := gones_get (resNos vars r) h n
   simp only [List.mem_append]
   by_cases hr : n ∈ shutNs vars rs
   ·refine ⟨fun _ => ?_, fun hn => absurd (.inr hr) hn⟩
    rw [i1 hr]
    by_cases hq : n ∈ resNos vars r
    ·rw [g1 hq]; cases h[n]? <;> rfl
    ·rw [g2 hq]
   ·refine ⟨fun hn => ?_, fun hn => ?_⟩
    ·rw [i2 hr, g1 (hn.resolve_right hr)]
    ·rw [i2 hr, g2 (fun e => hn (.inl e))]
theorem shutRes_len (vars : List PV) : ∀ (rs : List PRes) (h : List PObj), (shutRes vars rs h).length = h.length
 | [], h => rfl
 | r :: rs, h => by simp only [shutRes]; rw [shutRes_len vars rs, gones_len]
theorem shutNs_of {vars : List PV} {n : Nat} {r : PRes} (hv : n ∈ resNos vars r) : ∀ {rs : List PRes}, r ∈ rs → n ∈ shutNs vars rs
 | r' :: rs, h => by
   simp only [shutNs, List.mem_append]
   rcases List.mem_cons.1 h with h | h
   ·subst h; exact .inl hv
   ·exact .inr (shutNs_of hv h)
section
variable {E : Env} {N : Nm} {P : Program}
theorem HR.shut {w : World} {G : GS} {heap : List PObj} (h : HR N w G heap) (vars : List PV) (rs : List PRes) : HR N w (G.shut (shutNs vars rs) heap) (shutRes vars rs heap) :=
 h.shutG (shutRes_get vars rs heap)
theorem load_rows {size off n sz len : Nat} {agg ag : Bool} {cs : List PV} {u : PV} (hf : ∀ x ∈ cs, x.flat = true) (h : loadFrom size agg cs off = some u) (hx : .rowp n sz ag len ∈ u.cells) : n ∈ rowNos cs := by
 unfold loadFrom at h
 split at h
 ·split at h
  ·simp only [Option.some.injEq] at h; subst h
   simp only [PV.cells, List.mem_map] at hx
   obtain ⟨y, hy, e⟩ := hx
   have : y = .rowp n sz ag len := by cases y <;> simp_all [dem]
   subst this
   exact rowNos_mem (List.mem_of_mem_drop (List.mem_of_mem_take hy))
  ·simp at h
 ·split at h
  ·rename_i y hy
   have hu : y = .rowp n sz ag len := by
    have hfl := hf y (List.mem_of_getElem? hy)
    cases y <;> simp [cp] at h <;> subst h <;> simp_all [PV.cells, PV.flat]
   subst hu
   exact rowNos_mem (List.mem_of_getElem? hy)
  ·simp at h
def resM (a : Act) (r : ResultVar) : Sem Value :=
 match r with
 | .tmp t => pure (a.tmps.getD t undef)
 | .cell t ty => do loadVar ty (← asAddr (a.tmps.getD t undef))
theorem resultOf_sound {kp : Bool} {vs : List Tmp} {nt : Nat} {w : World} {G : GS} {st : St} {a : Act} (hb : BI N w G st a vs nt) {ns : List Nat} {r : ResultVar} {p : PRes} {u : PV} (hns : ∀ n, n ∈ resNos st.vars p → n ∈ ns) (hc : cRes P kp vs r = some p) (hr : resultOf st p = some u) :
  ∃ v, (resM a r).run P w = .ok v w ∧ VR N w (G.shut ns st.heap).fix (G.shut ns st.heap).heap v u := by
 cases r with
 | tmp t =>
   simp only [cRes, Option.map_eq_some_iff] at hc
   obtain ⟨i, hi, rfl⟩ := hc
   obtain ⟨_, hi2⟩ := idxIn_some hi
   cases kp with
   | true =>
     simp only [if_true, resultOf, Option.bind_eq_some_iff] at hr
     obtain ⟨x, hx, hr⟩ := hr
     have hs := hb.fi.var i t x (by simpa using hi2) hx
     exact ⟨a.tmps.getD t undef, rfl, (hs.read hr).1.shut⟩
   | false =>
   simp only [Bool.false_eq_true, if_false] at hns hr
   simp only [resultOf, Option.bind_eq_some_iff] at hr
   obtain ⟨x, hx, hr⟩ := hr
   have hs := hb.fi.var i t x (by simpa using hi2) hx
   refine ⟨a.tmps.getD t undef, rfl, ?_⟩
   split at hr
   ·simp at hr; subst hr
    exact hs.1.shut
   ·rename_i n sz agg len
    split at hr
    ·rename_i hsz
     simp only [Option.bind_eq_some_iff, Option.map_eq_some_iff] at hr
     obtain ⟨cs, hcs, es, hes, rfl⟩ := hr
     have hvr := (hs.read (r := .rowp n sz agg len) rfl).1
     generalize hg : a.eval (.tmp t) = v at hvr
     have hg' : a.tmps.getD t undef = v := hg
     rw [hg']
     cases hvr with
     | rowp _ _ _ _ b cap hb' hcap _ =>
       unfold hget at hcs
       split at hcs
       ·rename_i cs' hh
        simp at hcs; subst hcs
        exact row_list hb.fi.heap hcap (hns n (by simp [resNos, rowNo, hx, rowpNo])) hb' hh hsz hes
       ·simp at hcs
    ·simp at hr
   ·simp at hr; subst hr
    have hvr := (hs.read (r := .nils) rfl).1
    have hg' : a.tmps.getD t undef = a.eval (.tmp t) := rfl
    rw [hg']
    generalize a.eval (.tmp t) = v at hvr
    cases hvr with
    | nils' => exact .nils false
   ·exact (hs.read hr).1.shut
 | cell t ty =>
   simp only [cRes, Option.bind_eq_some_iff, Option.map_eq_some_iff] at hc
   obtain ⟨i, hi, n, hn, rfl⟩ := hc
   obtain ⟨_, hi2⟩ := idxIn_some hi
   simp only [resultOf] at hr
   split at hr
   ·rename_i g cs hv
    simp only [Option.bind_eq_some_iff] at hr
    obtain ⟨u0, hr, hz⟩ := hr
    have hs := hb.fi.var i t _ (by simpa using hi2) hv
    obtain ⟨b, i', _, hval, _, _, _, cv, T, hh, hl, hcr⟩ := hs
    obtain ⟨hR, hcell⟩ := cells_of_box hh hl hcr
    have hn0 : n ≠ 0 := by obtain ⟨_, _, _, _, h, _⟩ := info_underlying hn; exact h
    obtain ⟨k1, k2, k3⟩ := loadFrom_sound hR hr hn0 (sizeT_one hn)
    have hval' : a.tmps.getD t undef = .pointer (some ⟨b, 0, none⟩) := hval
    have := run_loadVarT (w := w) hn b 0 cv.toList (by simpa using k1) (fun j v hv => by rw [Nat.zero_add]; exact hcell j v hv)
    refine ⟨_, ?_, froz_sound hb.fi.heap (fun x hx m sz agg len e => hns m ?_) k2 hz⟩
    rotate_left
    ·subst e
     simp only [resNos, hv]
     exact load_rows hR.2.1 hr hx
    simp only [resM, hval', asAddr, Sem.run_bind, Sem.run_pure, Result.andThen_ok, this]
    simp
   ·rename_i m hv
    simp only [Option.bind_eq_some_iff] at hr
    obtain ⟨cs, hcs, hr⟩ := hr
    have hs := (hb.fi.var i t _ (by simpa using hi2) hv)
    have hs : VR N w G.fix G.heap (a.eval (.tmp t)) (.ptr m 0) := hs
    generalize hval : a.eval (.tmp t) = pv at hs
    cases hs with
    | ptr _ _ b hb' =>
      unfold hget at hcs
      split at hcs
      ·rename_i cs' hhp
       simp only [Option.some.injEq] at hcs
       subst hcs
       rcases hb.fi.heap.1 m _ hhp with hgo | ⟨b', k1, k2, f, cv, T, hh, hl, hcr⟩
       ·simp at hgo
       have : b' = b := by rw [hb'] at k1; simpa using k1.symm
       subst this
       obtain ⟨hR, hcell⟩ := cells_of_obj hh hl hcr
       have hn0 : n ≠ 0 := by obtain ⟨_, _, _, _, h, _⟩ := info_underlying hn; exact h
       obtain ⟨k1, k2, k3⟩ := loadFrom_sound hR hr hn0 (sizeT_one hn)
       have hval' : a.tmps.getD t undef = .pointer (some ⟨b', 0, none⟩) := hval
       have := run_loadVarT (w := w) hn b' 0 (cv.toList.take cs'.length) (by simpa using k1) (fun j v hv => by rw [Nat.zero_add]; exact hcell j v hv)
       refine ⟨_, ?_, k2.shut⟩
       simp only [resM, hval', asAddr, Sem.run_bind, Sem.run_pure, Result.andThen_ok, this]
       simp
      ·simp at hcs
   ·simp at hr
theorem results_sound {kp : Bool} {vs : List Tmp} {nt : Nat} {w : World} {G : GS} {st : St} {a : Act} (hb : BI N w G st a vs nt) {ns : List Nat} : ∀ {rs : List ResultVar} {ps : List PRes} {us : List PV}, (∀ p ∈ ps, ∀ n, n ∈ resNos st.vars p → n ∈ ns) → cRess P kp vs rs = some ps → resultsOf st ps = some us →
  ∃ vals : List Value, (rs.mapM (resM a)).run P w = .ok vals w ∧ vals.length = us.length ∧
    ∀ (i : Nat) (v : Value) (u : PV), vals[i]? = some v → us[i]? = some u → VR N w (G.shut ns st.heap).fix (G.shut ns st.heap).heap v u
 | [], ps, us, _, hc, hr => by
   simp [cRess] at hc; subst hc
   simp [resultsOf] at hr; subst hr
   exact ⟨[], by simp, rfl, by simp⟩
 | r :: rs, ps, us, hns, hc, hr => by
   simp only [cRess, Option.bind_eq_some_iff, Option.map_eq_some_iff] at hc
   obtain ⟨p, hp, ps', hps, rfl⟩ := hc
   simp only [resultsOf, Option.bind_eq_some_iff, Option.map_eq_some_iff] at hr
   obtain ⟨u, hu, us', hus, rfl⟩ := hr
   obtain ⟨v, h1, h2⟩ := resultOf_sound hb (hns p (List.mem_cons_self ..)) hp hu
   obtain ⟨vals, h3, h4, h5⟩ := results_sound hb (fun p e => hns p (List.mem_cons_of_mem _ e)) hps hus
   refine ⟨v :: vals, ?_, by simp [h4], ?_⟩
   ·rw [List.mapM_cons]
    simp only [Sem.run_bind, h1, Result.andThen_ok, h3, Sem.run_pure]
   ·intro i x y hx hy
    cases i with
    | zero => simp at hx hy; subst hx hy; exact h2
    | succ i => exact h5 i x y (by simpa using hx) (by simpa using hy)
/-! ### Marks of loops, turned -/
/-- The marks are come to, one behind the other. -/
theorem leaves_marks {fn : Func} {tmps : Array Value} {R : Ending → World → Prop} {u : FrameMode} (hu : u ≠ .run) {G : GS} {w0 : World} :
  ∀ {bs : List Nat} {w : World}, bs.Nodup → (∀ b ∈ bs, w0.heap.size ≤ b ∧ w.heap[b]? = some (.deferred (some [])) ∧ G.ow b = none) →
    (∀ w', DefW w w' → (∀ b, b < w0.heap.size → w'.heap[b]? = w.heap[b]?) → LeavesIn (W none) 0 P fn tmps R [] u w') → LeavesInM (W none) 0 P fn tmps R (bs.map fun b => { target := .collected b, args := #[] }) u w
 | [], w, _, _, h => h w (DefW.refl w) (fun _ _ => rfl)
 | b :: bs, w, hn, hb, h => by
   obtain ⟨n1, n2⟩ := List.nodup_cons.1 hn
   obtain ⟨k1, k2, k3⟩ := hb b (by simp)
   have hlt : b < w.heap.size := (Array.getElem?_eq_some_iff.1 k2).1
   have hoth : ∀ x, x ≠ b → (w.putObj b (.deferred none)).heap[x]? = w.heap[x]? := fun x hx => World.putObj_heap_other hx
   have hd : DefW w (w.putObj b (.deferred none)) := by
    refine ⟨rfl, rfl, rfl, by simp [World.putObj], ?_⟩
    intro x
    by_cases hx : x = b
    ·subst hx
     exact .inr ⟨⟨_, rfl, k2⟩, _, rfl, World.putObj_heap_same hlt⟩
    ·exact .inl (hoth x hx)
   refine ⟨hu, .inl ⟨b, _, rfl, run_takeDeferred k2, ?_⟩⟩
   refine leaves_marks (w0 := w0) (G := G) hu n2 ?_ ?_
   ·intro x hx
    have hne : x ≠ b := by rintro rfl; exact n1 hx
    obtain ⟨j1, j2, j3⟩ := hb x (by simp [hx])
    exact ⟨j1, (hoth x hne).trans j2, j3⟩
   ·intro w' d2 hsame
    refine h w' ?_ ?_
    ·refine ⟨d2.os.trans hd.os, d2.tape.trans hd.tape, d2.output.trans hd.output, d2.size.trans hd.size, ?_⟩
     intro x
     rcases d2.heap x with e | ⟨⟨y, iy, e1⟩, z, e2⟩
     ·rcases hd.heap x with e' | ⟨e1', z, e2'⟩
      ·exact .inl (e.trans e')
      ·exact .inr ⟨e1', z, e2'.1, e.trans e2'.2⟩
     ·rcases hd.heap x with e' | ⟨e1', _⟩
      ·exact .inr ⟨⟨y, iy, by rw [← e']; exact e1⟩, z, e2⟩
      ·exact .inr ⟨e1', z, e2⟩
    ·intro x hx
     have hne : x ≠ b := by omega
     rw [hsame x hx, hoth x hne]
/-- The frame is gone. -/
theorem leave_shut {w w1 w' : World} {G G' : GS} {st : St} {a : Act} {vs : List Tmp} {nt : Nat} (he : ExtD w G w1 G') (hb : BI N w1 G' st a vs nt) (d : DefW w1 w') (hs : ∀ b, b < w.heap.size → w'.heap[b]? = w1.heap[b]?) (vars : List PV) (rs : List PRes) :
  Ext w G w' { fix := (G'.shut (shutNs vars rs) st.heap).fix, heap := G'.heap, box := fun _ => none, ow := onlyH G'.ow, df := G.df } ∧ Between N w' { fix := (G'.shut (shutNs vars rs) st.heap).fix, heap := G'.heap, box := fun _ => none, ow := onlyH G'.ow, df := G.df } (shutRes vars rs st.heap) := by
 have hb2 := hb.def' d
 have he : Ext w { G with df := G'.df } w1 G' := he
 refine ⟨⟨d.os.trans he.os, d.tape.trans he.tape, d.output.trans he.output, by rw [d.size]; exact he.size, fun b hlt h => (hs b hlt).trans (he.same b hlt h), fun b o h => ⟨.inl (he.fix b o h).1, (d.cell b o).trans (he.fix b o h).2⟩, ?_, ?_, he.heap, he.shape.trans d.shape, rfl⟩, ⟨fun b k h => (onlyH_some h).2, fun _ => rfl⟩, ?_, fun b k h => hb2.fi.owlt b k (onlyH_some h).1, (hb2.fi.heap.shut vars rs).sub rfl rfl (fun b k hk h => onlyH_of h hk), ?_⟩
 ·rintro b o (h | ⟨n, _, cs, h1, h2, _⟩)
  ·exact he.newfix b o h
  ·rcases hb.fi.heap.1 n _ h2 with h3 | ⟨b', k1, k2, _⟩
   ·simp at h3
   rw [h1] at k1; cases k1
   exact .inr (he.own b (by rw [k2]; simp))
 ·intro b h
  refine he.own b ?_
  intro e
  exact h (by simp [onlyH, e])
 ·rintro b o (h | ⟨n, _, cs, h1, h2, _⟩)
  ·exact hb2.fi.fixlt b o h
  ·rcases hb2.fi.heap.1 n _ h2 with h3 | ⟨b', k1, k2, _⟩
   ·simp at h3
   rw [h1] at k1; cases k1
   exact hb2.fi.owlt b _ k2
 ·rw [shutRes_len]; exact hb2.fi.hdom
/-- What a function gives. -/
theorem res_value {kp : Bool} {fn : Func} {vs : List Tmp} {nt : Nat} {w : World} {G : GS} {st : St} {a : Act} {rs : List PRes} {r : PV} (hb : BI N w G st a vs nt) (hc : cRess P kp vs fn.results.toList = some rs) (hr : resultV st rs = some r) :
  ∃ v, (results fn a.tmps).run P w = .ok v w ∧ VR N w (G.shut (shutNs st.vars rs) st.heap).fix (G.shut (shutNs st.vars rs) st.heap).heap v r := by
 simp only [resultV, Option.map_eq_some_iff] at hr
 obtain ⟨us, hus, hr'⟩ := hr
 obtain ⟨rvals, h1, h2, h3⟩ := results_sound (P := P) (ns := shutNs st.vars rs) hb (fun p hp n hn => shutNs_of hn hp) hc hus
 have hm : results fn a.tmps = (do let vs ← fn.results.mapM (resM a); pure (if h : vs.size = 1 then vs[0] else .tuple vs)) := rfl
 rw [hm, Array.mapM_eq_mapM_toList]
 simp only [Sem.run_bind, Sem.run_map]
 rw [h1]
 simp only [Result.andThen_ok, Sem.run_pure]
 subst hr'
 cases us with
 | nil =>
   have : rvals = [] := by simpa using h2
   subst this
   exact ⟨.tuple #[], by simp, .tuple #[] _ rfl (by simp)⟩
 | cons u us2 =>
   cases us2 with
   | nil =>
     obtain ⟨v, rfl⟩ := List.length_eq_one_iff.1 (by simpa using h2)
     exact ⟨v, by simp, h3 0 v u rfl rfl⟩
   | cons u2 us3 =>
     refine ⟨.tuple rvals.toArray, ?_, .tuple _ _ ?_ ?_⟩
     ·have : ¬ rvals.toArray.size = 1 := by
       intro e
       have e' : rvals.length = 1 := e
       rw [h2] at e'
       simp at e'
      rw [dif_neg this]
     ·simpa using h2
     ·intro i v p hv hp
      simp only [List.getElem?_map, Option.map_eq_some_iff] at hp
      obtain ⟨q, hq, rfl⟩ := hp
      exact (h3 i v q (by simpa using hv) hq).dem
/-- A function's run. -/
theorem fn_sound {L : Nat → Option PFunc} (hE : EnvOk E N) (hP : E.P = P) (hmix : P.follows .mixedOrders = true) (hF : FnsOK N P L) (hL : ∀ k pf, L k = some pf → FnS E N k pf) {n : Nat} (hrun : ∀ m, m < n → Runs N P L m)
  {k : Nat} {pf : PFunc} {fn : Func} {vs : List Tmp} (hLk : FnC E N k pf fn vs) (hnr : pf.code.isRound = false) {args : List PV} {o : Out} {h0 h' : List PObj} (hc : runOut (exec L n) (dfrOf L) pf args h0 = some (o, h')) (hal : args.length = pf.params)
  {w : World} {G : GS} {vals : Array Value} (hbt : Between N w G h0) (hsz : vals.size = args.length) (hvr : ∀ (i : Nat) (v : Value) (p : PV), vals[i]? = some v → args[i]? = some p → VR N w G.fix G.heap v p) :
  Calls P (N.fn k) vals w fun e w' => ∃ G', OutR N w' G' e o ∧ Ext w G w' G' ∧ Between N w' G' h' := by
 obtain ⟨f1, f2, f3, f4, f5, f6, f7, opt, f8, f8', f9⟩ := hLk
 simp only [Option.map_eq_some_iff] at f8
 obtain ⟨c, hbody, hcomp⟩ := f8
 rw [hP] at f1
 rw [hP] at f9
 have hLp : LpOK (E.opt opt) N fn.ntmps (N.fn k) c := by
  rcases f8' with h | h
  ·intro ps kb vars hl
   simp only [Env.opt, h] at hl
   simp at hl
  ·exact h c hbody
 let st0 : St := { vars := args.map dem ++ List.replicate (pf.nv - pf.params) .dead, locs := [], gen := 0, heap := h0 }
 let a0 : Act := { tmps := vals ++ Array.replicate (fn.ntmps - vals.size) undef, defers := [] }
 let G0 : GS := { G with df := [] }
 have hb0 : BI N w G0 st0 a0 vs fn.ntmps := by
  refine ⟨⟨?_, ?_, (by intro j t u hj; simp at hj), ?_, (by intro j t hj; simp at hj), rfl, (by intro g b h; have h : G.box g = some b := h; rw [hbt.only.box] at h; simp at h), hbt.owlt, hbt.fixlt, hbt.heap, hbt.hdom⟩, ?_⟩
  ·simp only [st0, List.length_append, List.length_map, List.length_replicate, f5, hal]; omega
  ·intro i t u h1 h2
   by_cases hi : i < pf.params
   ·have ht : t = i := by rw [f7 i hi] at h1; simpa using h1.symm
    subst ht
    have hia : t < args.length := by rw [hal]; exact hi
    simp only [st0] at h2
    rw [List.getElem?_append_left (by simpa using hia)] at h2
    simp only [List.getElem?_map, List.getElem?_eq_getElem hia, Option.map_some, Option.some.injEq] at h2
    subst h2
    have hiv : t < vals.size := by rw [hsz]; exact hia
    have hev : a0.eval (.tmp t) = vals[t] := by
     simp only [a0, Act.eval, Array.getD_eq_getD_getElem?]
     rw [Array.getElem?_append_left hiv]
     simp [hiv]
    rw [hev]
    have hv := hvr t vals[t] args[t] (by simp [hiv]) (List.getElem?_eq_getElem hia)
    exact SR.of_pure hv.dem hv.cp_dem
   ·simp only [st0] at h2
    rw [List.getElem?_append_right (by rw [List.length_map, hal]; omega)] at h2
    rw [List.getElem?_replicate] at h2
    split at h2
    ·simp at h2; subst h2; trivial
    ·simp at h2
  ·intro i t h1
   have h3 := f4 t (List.mem_of_getElem? h1)
   simp only [a0, Array.size_append, Array.size_replicate]
   exact Nat.lt_of_lt_of_le h3 ((Nat.sub_le_iff_le_add').1 (Nat.le_refl _))
  ·simp only [a0, Array.size_append, Array.size_replicate]
   exact (Nat.sub_le_iff_le_add').1 (Nat.le_refl _)
 have walk : ∀ (x : PExit) (st' : St), exec L n pf.code st0 = some (x, st') → (∀ a' w' G' e, ExitR N w' G' x e → BI N w' G' st' a' vs fn.ntmps → ExtD w G w' G' → DfR pf.code x w G0 w' G' → endM P fn (fun e w' => ∃ G', OutR N w' G' e o ∧ Ext w G w' G' ∧ Between N w' G' h') e a' w') →
   Calls P (N.fn k) vals w fun e w' => ∃ G', OutR N w' G' e o ∧ Ext w G w' G' ∧ Between N w' G' h' := by
  intro x st' hx hq
  refine calls_of_wpN f1 hbody ?_
  exact code_sound (rd' := none) hF (hE.opt opt) hP hmix f3 n hrun (by rw [← hcomp]; exact compC_cmp) hx hb0 hLp (.inl rfl) (fun ⟨_, _, h⟩ => h) hq
 have marks : ∀ {x : PExit} {w' : World} {G' : GS} {st' : St} {a' : Act} {R : Ending → World → Prop} {u : FrameMode}, u ≠ .run → x.plain = true → BI N w' G' st' a' vs fn.ntmps → DfR pf.code x w G0 w' G' →
   (∀ w'', DefW w' w'' → (∀ b, b < w.heap.size → w''.heap[b]? = w'.heap[b]?) → LeavesIn (W none) 0 P fn a'.tmps R [] u w'') → LeavesInM (W none) 0 P fn a'.tmps R a'.defers u w' := by
  intro x w' G' st' a' R u hu hx hb hd hK
  have key : (∃ ms, G'.df = ms ++ G0.df ∧ Marks w w' G' ms ∧ (pf.code.NR = true → ms = [])) → LeavesInM (W none) 0 P fn a'.tmps R a'.defers u w' := by
   rintro ⟨ms, h1, ⟨bs, rfl, h2, h3⟩, _⟩
   have hdef : a'.defers = bs.map fun b => { target := .collected b, args := #[] } := by
    rw [hb.fi.defers, h1]; exact List.append_nil _
   rw [hdef]
   exact leaves_marks (G := G') (w0 := w) hu h2 h3 hK
  cases x with
  | after _ _ _ => simp [PExit.plain] at hx
  | normal => exact key hd
  | exit _ => exact key hd
  | ret => exact key hd
  | boom _ => exact key hd
 have fin : ∀ (x : PExit) (st' : St), exec L n pf.code st0 = some (x, st') → (x = .normal ∨ x = .ret) → (resultV st' pf.results).map (fun r => (Out.val r, shutRes st'.vars pf.results st'.heap)) = some (o, h') →
   Calls P (N.fn k) vals w fun e w' => ∃ G', OutR N w' G' e o ∧ Ext w G w' G' ∧ Between N w' G' h' := by
  intro x st' hx hxn hres
  simp only [Option.map_eq_some_iff, Prod.mk.injEq] at hres
  obtain ⟨r, hr, rfl, rfl⟩ := hres
  refine walk x st' hx ?_
  intro a' w' G' e he hb' hext hdf
  have hp : x.plain = true := by rcases hxn with rfl | rfl <;> rfl
  have hL := marks (R := fun e w' => ∃ G', OutR N w' G' e (.val r) ∧ Ext w G w' G' ∧ Between N w' G' (shutRes st'.vars pf.results st'.heap)) (u := .returning) (by simp) hp hb' hdf (by
   intro w'' d hsame
   obtain ⟨v, hv1, hv2⟩ := res_value (hb'.def' d) f9 hr
   obtain ⟨l1, l2⟩ := leave_shut hext hb' d hsame st'.vars pf.results
   exact ⟨v, hv1, _, by exact ⟨v, rfl, hv2⟩, l1, l2⟩)
  rcases hxn with rfl | rfl <;> (simp only [ExitR] at he; subst he; exact hL)
 unfold runOut at hc
 split at hc
 ·rename_i heq; rw [heq] at hnr; simp [PC.isRound] at hnr
 ·split at hc
  ·rename_i st' hx
   exact fin .normal st' hx (.inl rfl) hc
  ·rename_i st' hx
   exact fin .ret st' hx (.inr rfl) hc
  ·rename_i p st' hx
   simp only [Option.some.injEq, Prod.mk.injEq] at hc
   obtain ⟨rfl, rfl⟩ := hc
   refine walk _ st' hx ?_
   rintro a' w' G' e ⟨v, rfl, hv⟩ hb' hext hdf
   refine marks (x := .boom p) (by simp) rfl hb' hdf ?_
   intro w'' d hsame
   obtain ⟨l1, l2⟩ := leave_shut hext hb' d hsame st'.vars []
   exact ⟨_, by exact ⟨v, rfl, (hv.def' d).shut⟩, l1, l2⟩
  ·rename_i kd caps vo st' hx
   split at hc
   ·simp at hc
   ·rename_i hnrr
    have hNR : pf.code.NR = true := by simpa using hnrr
    simp only [Option.bind_eq_some_iff, Option.map_eq_some_iff, Prod.mk.injEq] at hc
    obtain ⟨h1, hd1, r, hr, rfl, rfl⟩ := hc
    obtain ⟨g, fd, hfd, hg, hDf⟩ : ∃ g fd, L kd = some fd ∧ g (vo.getD .nilIface :: caps) st'.heap = some h1 ∧ DfrOK N P kd g := by
     unfold dfrOf at hd1
     split at hd1
     ·rename_i f hf
      split at hd1
      ·rename_i g hg
       have hpl : FnF E N kd f := by
        rcases hL kd f hf with h | ⟨y, fn, vs, o, a, b, h⟩
        ·exact h
        ·rw [h.dfr] at hg; simp at hg
       rcases hpl.2.2.2 with ⟨_, h, _⟩ | ⟨_, _, _, h, _⟩ | ⟨g', fd, _, _, h3, h4, h5, h6, h7⟩
       ·rw [h] at hg; simp at hg
       ·rw [h] at hg; simp at hg
       ·rw [hg] at h3
        simp only [Option.some.injEq] at h3
        subst h3
        exact ⟨g, f, hf, hd1, by rw [← hP]; exact h7⟩
      ·simp at hd1
     ·simp at hd1
    refine walk _ st' hx ?_
    intro a' w' G' e he hb' hext hdf
    obtain ⟨d1, hd2⟩ : ∃ d, G'.df = d :: G0.df := hdf hNR
    have last : ∀ (u : FrameMode), Clo N w' G' kd caps → u ≠ .run → (u = .returning ∧ vo.getD .nilIface = .nilIface ∨ ∃ v, u = .panicking [{ v, recovered := false }] ∧ VR N w' G'.fix G'.heap v (vo.getD .nilIface)) →
      LeavesInM (W none) 0 P fn a'.tmps (fun e w' => ∃ G', OutR N w' G' e (.val r) ∧ Ext w G w' G' ∧ Between N w' G' (shutRes st'.vars pf.results h1)) a'.defers u w' := by
     rintro u ⟨d, ds, vals', k1, rfl, k3, k4⟩ hu hu'
     have hds : ds = [] := by
      rw [hd2] at k1
      simp only [List.cons.injEq] at k1
      exact k1.2.symm
     subst hds
     have hdef : a'.defers = [{ target := .fn (.func (N.fn kd)) vals', args := #[] }] := by rw [hb'.fi.defers, k1]
     rw [hdef]
     have hinv : (invoke (.fn (.func (N.fn kd)) vals') #[]).run P w' = .ok (.enter (N.fn kd) vals') w' := by
      simp only [invoke, Array.empty_append]
      exact run_callFunc hF hfd _ _
     refine ⟨hu, .inr ⟨W_depth, _, _, _, _, rfl, hinv, fun _ _ => W_fn _, ?_⟩⟩
     refine (hDf _ _ _ _ hg w' G'.callee vals' (between_callee hb'.fi) k3 k4 u hu').mono ?_
     rintro e u' w'' ⟨⟨v, rfl⟩, hset, G2, he2, hb2⟩
     obtain ⟨G3, hext3, hf3, _, _⟩ := back_heap hb'.fi he2 hb2
     have hb3 : BI N w'' G3 { st' with heap := h1 } a' vs fn.ntmps := ⟨hf3, hb'.size⟩
     simp only [hset]
     obtain ⟨v2, hv1, hv2⟩ := res_value hb3 f9 hr
     obtain ⟨l1, l2⟩ := leave_shut (ExtD.trans hext (.of hext3)) hb3 (DefW.refl _) (fun _ _ => rfl) st'.vars pf.results
     exact ⟨v2, hv1, _, by exact ⟨v2, rfl, hv2⟩, l1, l2⟩
    cases vo with
    | none =>
      obtain ⟨he, hclo⟩ := he
      have := last .returning hclo (by simp) (.inl ⟨rfl, rfl⟩)
      rcases he with rfl | rfl <;> exact this
    | some p =>
      obtain ⟨⟨v, rfl, hv⟩, hclo⟩ := he
      exact last _ hclo (by simp) (.inr ⟨v, rfl, hv⟩)
  ·simp at hc
/-- The room of what a function gives. -/
theorem res_room {kp : Bool} {fn : Func} {vs : List Tmp} {nt : Nat} {w : World} {G : GS} {st : St} {a : Act} {rs : List PRes} {es : List PV} {v : Value} (hb : BI N w G st a vs nt) (hc : cRess P kp vs fn.results.toList = some rs) (hr : resultV st rs = some (.list true es))
  (hv : (results fn a.tmps).run P w = .ok v w) : ∃ i, Room w G (.var i) v es := by
 simp only [resultV, Option.map_eq_some_iff] at hr
 obtain ⟨us, hus, hr'⟩ := hr
 have hu1 : us = [.list true es] := by
  cases us with
  | nil => simp at hr'
  | cons u us => cases us with
    | nil => simp at hr'; subst hr'; rfl
    | cons _ _ => simp at hr'
 subst hu1
 cases rs with
 | nil => simp [resultsOf] at hus
 | cons p ps =>
   simp only [resultsOf, Option.bind_eq_some_iff, Option.map_eq_some_iff] at hus
   obtain ⟨u, hp, us', hps, he⟩ := hus
   simp only [List.cons.injEq] at he
   obtain ⟨rfl, rfl⟩ := he
   have hps0 : ps = [] := by
    cases ps with
    | nil => rfl
    | cons q qs =>
      simp only [resultsOf, Option.bind_eq_some_iff, Option.map_eq_some_iff] at hps
      obtain ⟨_, _, _, _, h⟩ := hps
      simp at h
   subst hps0
   cases hl : fn.results.toList with
   | nil => rw [hl] at hc; simp [cRess] at hc
   | cons r0 rl =>
     rw [hl] at hc
     simp only [cRess, Option.bind_eq_some_iff, Option.map_eq_some_iff] at hc
     obtain ⟨q, hq, qs, hqs, he⟩ := hc
     simp only [List.cons.injEq] at he
     obtain ⟨rfl, rfl⟩ := he
     have hrl : rl = [] := by
      cases rl with
      | nil => rfl
      | cons x xs =>
        simp only [cRess, Option.bind_eq_some_iff, Option.map_eq_some_iff] at hqs
        obtain ⟨_, _, _, _, h⟩ := hqs
        simp at h
     subst hrl
     have noList : ∀ {x : Option PV}, x.bind cp = some (.list true es) → False := by
      intro x h
      cases x with
      | none => simp at h
      | some y => cases y <;> simp [cp] at h
     have hvar : ∃ i, q = .var i ∧ st.vars[i]? = some (.list true es) := by
      cases q with
      | keep i => simp only [resultOf] at hp; exact (noList hp).elim
      | cell i size agg =>
        have noLoad : ∀ {size agg cs off}, loadFrom size agg cs off = some (.list true es) → False := by
         intro size agg cs off h
         unfold loadFrom at h
         split at h
         ·split at h <;> simp at h
         ·split at h
          ·rename_i y _; cases y <;> simp [cp] at h
          ·simp at h
        simp only [resultOf] at hp
        split at hp
        ·simp only [Option.bind_eq_some_iff] at hp
         obtain ⟨y, hy, hf⟩ := hp
         have : y = .list true es := by
          cases y <;> simp [froz] at hf
          simp [hf]
         subst this
         exact (noLoad hy).elim
        ·simp only [Option.bind_eq_some_iff] at hp
         obtain ⟨cs, _, hy⟩ := hp
         exact (noLoad hy).elim
        ·simp at hp
      | var i =>
        refine ⟨i, rfl, ?_⟩
        simp only [resultOf, Option.bind_eq_some_iff] at hp
        obtain ⟨x, hx, hx2⟩ := hp
        split at hx2
        ·simp at hx2; subst hx2; exact hx
        ·split at hx2
         ·simp only [Option.bind_eq_some_iff, Option.map_eq_some_iff] at hx2
          obtain ⟨_, _, _, _, h⟩ := hx2
          simp at h
         ·simp at hx2
        ·simp at hx2
        ·exact (noList (x := some _) (by simpa using hx2)).elim
     obtain ⟨i, rfl, hi⟩ := hvar
     cases r0 with
     | cell t ty =>
       simp only [cRes, Option.bind_eq_some_iff, Option.map_eq_some_iff] at hq
       obtain ⟨_, _, _, _, h⟩ := hq
       simp at h
     | tmp t =>
       simp only [cRes, Option.map_eq_some_iff] at hq
       obtain ⟨i', hi', hii⟩ := hq
       obtain ⟨_, hi2⟩ := idxIn_some hi'
       have : i' = i := by cases kp <;> simp at hii; exact hii
       subst this
       have hs := hb.fi.var i' t _ (by simpa using hi2) hi
       have hres : fn.results = #[.tmp t] := by
        have := congrArg List.toArray hl
        simpa using this
       have hvv : v = a.eval (.tmp t) := by
        simp [results, hres] at hv
        simp [Act.eval]
        exact hv.symm
       rw [hvv]
       exact ⟨i', hs.2⟩
/-- A function's run, with an argument's room. -/
theorem own_sound {L : Nat → Option PFunc} (hE : EnvOk E N) (hP : E.P = P) (hmix : P.follows .mixedOrders = true) (hF : FnsOK N P L) {n : Nat} (hrun : ∀ m, m < n → Runs N P L m)
  {k : Nat} {pf : PFunc} {fn : Func} {vs : List Tmp} (hLk : FnC E N k pf fn vs) {own : Option Nat} {args : List PV} {r : PV} {h' : List PObj} (hc : runOwn (exec L n) pf own args [] = some (r, h')) (hal : args.length = pf.params)
  {w : World} {G : GS} {vals : Array Value} (hin : OwnIn N w G own args vals) :
  Calls P (N.fn k) vals w fun e w' => ∃ v G', e = .returned v ∧ VR N w' G'.fix G'.heap v r ∧ Ext w G w' G' ∧ (∀ b o, G'.fix b o → b < w'.heap.size) ∧ ∀ es, r = .list true es → Spare w G w' G' v es := by
 obtain ⟨f1, f2, f3, f4, f5, f6, f7, opt, f8, f8', f9⟩ := hLk
 simp only [Option.map_eq_some_iff] at f8
 obtain ⟨c, hbody, hcomp⟩ := f8
 rw [hP] at f1
 rw [hP] at f9
 have hLp : LpOK (E.opt opt) N fn.ntmps (N.fn k) c := by
  rcases f8' with h | h
  ·intro ps kb vars hl
   simp only [Env.opt, h] at hl
   simp at hl
  ·exact h c hbody
 have hel : (entry own args).length = args.length := by cases own <;> simp [entry]
 let st0 : St := { vars := entry own args ++ List.replicate (pf.nv - pf.params) .dead, locs := [], gen := 0, heap := [] }
 let a0 : Act := { tmps := vals ++ Array.replicate (fn.ntmps - vals.size) undef, defers := [] }
 let G0 : GS := { G with df := [] }
 have hb0 : BI N w G0 st0 a0 vs fn.ntmps := by
  refine ⟨⟨?_, ?_, (by intro j t u hj; simp at hj), ?_, (by intro j t hj; simp at hj), rfl, (by intro g b h; have h : G.box g = some b := h; rw [hin.box] at h; simp at h), hin.owlt, hin.fixlt, ⟨by intro n ob h; simp [st0] at h, hin.tab⟩, (by intro n b h; have h : G.heap n = some b := h; rw [hin.heap] at h; simp at h)⟩, ?_⟩
  ·simp only [st0, List.length_append, hel, List.length_replicate, f5, hal]; omega
  ·intro i t u h1 h2
   by_cases hi : i < pf.params
   ·have ht : t = i := by rw [f7 i hi] at h1; simpa using h1.symm
    subst ht
    have hia : t < args.length := by rw [hal]; exact hi
    simp only [st0] at h2
    rw [List.getElem?_append_left (by rw [hel]; exact hia)] at h2
    have hiv : t < vals.size := by rw [hin.size]; exact hia
    have hev : a0.eval (.tmp t) = vals[t] := by
     simp only [a0, Act.eval, Array.getD_eq_getD_getElem?]
     rw [Array.getElem?_append_left hiv]
     simp [hiv]
    rw [hev]
    have hv := hin.vr t vals[t] args[t] (by simp [hiv]) (List.getElem?_eq_getElem hia)
    have plain : u = dem args[t] → SR N w G0 (.var t) vals[t] u := by
     rintro rfl
     exact SR.of_pure hv.dem hv.cp_dem
    cases own with
    | none =>
      refine plain ?_
      simp only [entry, List.getElem?_map, List.getElem?_eq_getElem hia, Option.map_some, Option.some.injEq] at h2
      exact h2.symm
    | some i =>
      simp only [entry, List.getElem?_set, List.length_map] at h2
      split at h2
      ·rename_i hit
       subst hit
       rw [if_pos hia] at h2
       simp only [List.getD_eq_getElem?_getD, List.getElem?_eq_getElem hia, Option.getD_some, Option.some.injEq] at h2
       subst h2
       rcases hv.cp_or with h | ⟨es, h⟩
       ·exact SR.of_pure hv h
       ·rw [h] at hv ⊢
        exact ⟨hv, hin.room i vals[i] es rfl (by simp [hiv]) (by rw [List.getElem?_eq_getElem hia, h])⟩
      ·refine plain ?_
       simp only [List.getElem?_map, List.getElem?_eq_getElem hia, Option.map_some, Option.some.injEq] at h2
       exact h2.symm
   ·simp only [st0] at h2
    rw [List.getElem?_append_right (by rw [hel, hal]; omega)] at h2
    rw [List.getElem?_replicate] at h2
    split at h2
    ·simp at h2; subst h2; trivial
    ·simp at h2
  ·intro i t h1
   have h3 := f4 t (List.mem_of_getElem? h1)
   simp only [a0, Array.size_append, Array.size_replicate]
   exact Nat.lt_of_lt_of_le h3 ((Nat.sub_le_iff_le_add').1 (Nat.le_refl _))
  ·simp only [a0, Array.size_append, Array.size_replicate]
   exact (Nat.sub_le_iff_le_add').1 (Nat.le_refl _)
 have fin : ∀ (x : PExit) (st' : St), exec L n pf.code st0 = some (x, st') → (x = .normal ∨ x = .ret) → (resultV st' pf.results).map (fun r => (r, shutRes st'.vars pf.results st'.heap)) = some (r, h') →
   Calls P (N.fn k) vals w fun e w' => ∃ v G', e = .returned v ∧ VR N w' G'.fix G'.heap v r ∧ Ext w G w' G' ∧ (∀ b o, G'.fix b o → b < w'.heap.size) ∧ ∀ es, r = .list true es → Spare w G w' G' v es := by
  intro x st' hx hxn hres
  simp only [Option.map_eq_some_iff, Prod.mk.injEq] at hres
  obtain ⟨r, hr, rfl, rfl⟩ := hres
  refine calls_of_wpN f1 hbody ?_
  refine code_sound (rd' := none) hF (hE.opt opt) hP hmix f3 n hrun (by rw [← hcomp]; exact compC_cmp) hx hb0 hLp (.inl rfl) (fun ⟨_, _, h⟩ => h) ?_
  intro a' w' G' e he hb' hext hdf
  have hext : ExtD w G w' G' := hext
  have key : (∃ ms, G'.df = ms ++ G0.df ∧ Marks w w' G' ms ∧ (pf.code.NR = true → ms = [])) → LeavesInM (W none) 0 P fn a'.tmps (fun e w' => ∃ v G', e = .returned v ∧ VR N w' G'.fix G'.heap v r ∧ Ext w G w' G' ∧ (∀ b o, G'.fix b o → b < w'.heap.size) ∧ ∀ es, r = .list true es → Spare w G w' G' v es) a'.defers .returning w' := by
   rintro ⟨ms, h1, ⟨bs, rfl, h2, h3⟩, _⟩
   have hdef : a'.defers = bs.map fun b => { target := .collected b, args := #[] } := by
    rw [hb'.fi.defers, h1]; exact List.append_nil _
   rw [hdef]
   refine leaves_marks (G := G') (w0 := w) (by simp) h2 h3 ?_
   intro w'' d hsame
   obtain ⟨v, hv1, hv2⟩ := res_value (hb'.def' d) f9 hr
   obtain ⟨l1, l2⟩ := leave_shut hext hb' d hsame st'.vars pf.results
   refine ⟨v, hv1, v, { fix := (G'.shut (shutNs st'.vars pf.results) st'.heap).fix, heap := G'.heap, box := fun _ => none, ow := onlyH G'.ow, df := G.df }, rfl, hv2, l1, l2.fixlt, ?_⟩
   rintro es rfl
   obtain ⟨i, hi⟩ := res_room (hb'.def' d) f9 hr hv1
   unfold Spare
   unfold Room at hi
   split at hi
   ·rename_i a1 len cap
    rcases hi with hi | ⟨i1, sz, cs, T, i2, i3, i4, i5, i6⟩
    ·exact .inl hi
    ·refine .inr ⟨?_, sz, cs, T, i2, i3, i4, i5, ?_⟩
     ·exact hext.own a1.block (by rw [i1]; simp)
     ·rintro o ho (h | ⟨m, hm, cs', j1, j2, _⟩)
      ·exact i6 o ho h
      ·rcases hb'.fi.heap.1 m _ j2 with h3 | ⟨b', k1, k2, _⟩
       ·simp at h3
       ·rw [j1] at k1
        simp only [Option.some.injEq] at k1
        subst k1
        rw [i1] at k2
        simp at k2
   ·rename_i hne
    split
    ·rename_i a1 len cap; exact absurd rfl (hne _ _ _)
    ·trivial
  rcases hxn with rfl | rfl <;> (simp only [ExitR] at he; subst he; exact key hdf)
 unfold runOwn at hc
 split at hc
 ·simp at hc
 ·split at hc
  ·rename_i st' hx
   exact fin .normal st' hx (.inl rfl) hc
  ·rename_i st' hx
   exact fin .ret st' hx (.inr rfl) hc
  ·simp at hc
theorem fold_set : ∀ (ps : List (Tmp × Value)) (a : Array Value), (ps.foldl (fun tmps x => tmps.setIfInBounds x.1 x.2) a).size = a.size ∧ (∀ t, t ∉ ps.map (·.1) → (ps.foldl (fun tmps x => tmps.setIfInBounds x.1 x.2) a).getD t undef = a.getD t undef) ∧
  ((ps.map (·.1)).Nodup → ∀ x ∈ ps, x.1 < a.size → (ps.foldl (fun tmps x => tmps.setIfInBounds x.1 x.2) a).getD x.1 undef = x.2)
 | [], a => ⟨rfl, fun _ _ => rfl, by simp⟩
 | (t0, v0) :: ps, a => by
   obtain ⟨h1, h2, h3⟩ := fold_set ps (a.setIfInBounds t0 v0)
   simp only [List.foldl_cons, List.map_cons, List.mem_cons, not_or, List.nodup_cons]
   refine ⟨by rw [h1]; simp, ?_, ?_⟩
   ·rintro t ⟨n1, n2⟩
    rw [h2 t n2]
    simp only [Array.getD_eq_getD_getElem?, Array.getElem?_setIfInBounds]
    rw [if_neg (fun e => n1 e.symm)]
   ·rintro ⟨n1, n2⟩ x (rfl | hx) hlt
    ·rw [h2 _ n1]
     simp only [Array.getD_eq_getD_getElem?, Array.getElem?_setIfInBounds, if_true]
     simp [hlt]
    ·exact h3 n2 x hx (by simpa using hlt)
/-- A round of a loop over a function. -/
theorem round_sound {L : Nat → Option PFunc} (hE : EnvOk E N) (hP : E.P = P) (hmix : P.follows .mixedOrders = true) (hF : FnsOK N P L) {n : Nat} (hrun : ∀ m, m < n → Runs N P L m)
  {k : Nat} {pf : PFunc} {y : YL} {fn : Func} {vs : List Tmp} {opt : Opts} {ca cb : PC} (hR : RdC E N k pf y fn vs opt ca cb) {n0 l : Nat} {caps args : List PV} {o : Out} {h0 h' : List PObj}
  (hc : runRound (exec L n) pf.nv ca cb (.ptr n0 0 :: caps ++ args) h0 = some (o, h')) (hal : (PV.ptr n0 0 :: caps ++ args).length = 1 + (y.vars.length + y.params.size))
  {w : World} {G : GS} {vals : Array Value} (hbt : Between N w G h0) (hy : VR N w G.fix G.heap (.func (.yield l) #[] #[]) (.func k (.ptr n0 0 :: caps) [])) (hsz : vals.size = args.length)
  (hvr : ∀ (i : Nat) (v : Value) (p : PV), vals[i]? = some v → args[i]? = some p → VR N w G.fix G.heap v p) :
  ∃ tmps', (Instr.yield l vals).run P w = .ok (.round l y.fn tmps' y.assign y.body) w ∧ ∀ r n', RoundIn (W r) n' P l y.fn tmps' y.assign y.body w fun e w' => ∃ G', OutR N w' G' e o ∧ Ext w G w' G' ∧ Between N w' G' h' := by
 have hfn : P.funcs[y.fn]? = some fn := by rw [← hP]; exact hR.inP
 generalize hx1 : Value.func (.yield l) #[] #[] = xv at hy
 generalize hx2 : PV.func k (.ptr n0 0 :: caps) [] = xp at hy
 cases hy with
 | yield k' n' l' y' tmps caps' q0 ql qr qlen qsz qc =>
   simp only [PV.func.injEq, List.cons.injEq, PV.ptr.injEq] at hx2
   obtain ⟨rfl, ⟨⟨rfl, _⟩, rfl⟩, _⟩ := hx2
   simp only [Value.func.injEq, Fn.yield.injEq] at hx1
   obtain ⟨rfl, _⟩ := hx1
   have : y' = y := by have := hR.yl; rw [q0] at this; simpa using this
   subst this
   obtain ⟨r0, hr0, e1, e2, e3, e4, e5⟩ : ∃ r0 : Go.Loop, w.heap[l]? = some (.loop r0) ∧ r0.fn = y'.fn ∧ r0.tmps = tmps ∧ r0.params = y'.params ∧ r0.assign = y'.assign ∧ r0.body = y'.body := by
    unfold loopOf at qr
    split at qr
    ·rename_i r0 h
     simp only [Option.some.injEq, Prod.mk.injEq] at qr
     exact ⟨r0, h, qr⟩
    ·simp at qr
   have hpa : args.length = y'.params.size := by simp at hal; omega
   have hyl := run_yield (P := P) (args := vals) hr0 (by rw [hsz, e3]; exact hpa)
   rw [e1, e4, e5, e2, e3] at hyl
   refine ⟨_, hyl, ?_⟩
   intro r n'
   have hfold : (y'.params.zip vals).foldl (fun tmps x => tmps.setIfInBounds x.1 x.2) tmps = (y'.params.toList.zip vals.toList).foldl (fun tmps x => tmps.setIfInBounds x.1 x.2) tmps := by
    rw [← Array.foldl_toList, Array.toList_zip]
   obtain ⟨z1, z2, z3⟩ := fold_set (y'.params.toList.zip vals.toList) tmps
   have hmap : (y'.params.toList.zip vals.toList).map (·.1) = y'.params.toList := by
    rw [List.map_fst_zip]; simp; omega
   rw [hmap] at z2 z3
   have hnd2 : (y'.vars ++ y'.params.toList).Nodup := by rw [← hR.head]; exact hR.nd.sublist (List.take_sublist _ _)
   obtain ⟨_, nd2, nd3⟩ := List.nodup_append.1 hnd2
   have hlen2 : y'.vars.length + y'.params.size ≤ vs.length := by
    have := congrArg List.length hR.head
    simp at this; omega
   generalize htm : (y'.params.zip vals).foldl (fun tmps x => tmps.setIfInBounds x.1 x.2) tmps = tmps'
   rw [hfold] at htm
   rw [htm] at z1 z2 z3
   have hvv : ∀ i, i < y'.vars.length + y'.params.size → vs[i]? = (y'.vars ++ y'.params.toList)[i]? := by
    intro i hi
    rw [← hR.head, List.getElem?_take, if_pos hi]
   let st0 : St := { vars := (caps ++ args).map dem ++ List.replicate (pf.nv - (caps ++ args).length) .dead, locs := [], gen := 0, heap := h0 }
   let a0 : Act := { tmps := tmps', defers := [] }
   let G0 : GS := { G with df := [] }
   have hca : (caps ++ args).length = y'.vars.length + y'.params.size := by simp; omega
   have hb0 : BI N w G0 st0 a0 vs y'.nt := by
    refine ⟨⟨?_, ?_, (by intro j t u hj; simp at hj), ?_, (by intro j t hj; simp at hj), rfl, (by intro g b h; have h : G.box g = some b := h; rw [hbt.only.box] at h; simp at h), hbt.owlt, hbt.fixlt, hbt.heap, hbt.hdom⟩, ?_⟩
    ·have := hR.len
     simp only [st0, List.length_append, List.length_map, List.length_replicate] at hca ⊢
     omega
    ·intro i t u h1 h2
     by_cases hi : i < (caps ++ args).length
     ·rw [hvv i (by omega)] at h1
      simp only [st0] at h2
      rw [List.getElem?_append_left (by simpa using hi)] at h2
      simp only [List.getElem?_map, List.getElem?_eq_getElem hi, Option.map_some, Option.some.injEq] at h2
      subst h2
      have hval : VR N w G.fix G.heap (tmps'.getD t undef) (caps ++ args)[i] := by
       by_cases hi2 : i < y'.vars.length
       ·rw [List.getElem?_append_left hi2] at h1
        have hic : i < caps.length := by omega
        have hq := qc i t caps[i] h1 (by simp [hic])
        have hnp : t ∉ y'.params.toList := fun hm => nd3 t (List.mem_of_getElem? h1) t hm rfl
        rw [z2 t hnp]
        rw [List.getElem_append_left hic]
        exact hq
       ·rw [List.getElem?_append_right (by omega)] at h1
        have hja : i - caps.length < args.length := by rw [List.length_append] at hi; omega
        have hjv : i - caps.length < vals.size := by omega
        rw [List.getElem_append_right (by omega)]
        have hpt : y'.params.toList[i - caps.length]? = some t := by rw [qlen]; exact h1
        have hmem : (t, vals[i - caps.length]) ∈ y'.params.toList.zip vals.toList := by
         refine List.mem_iff_getElem?.2 ⟨i - caps.length, ?_⟩
         rw [List.getElem?_zip_eq_some]
         exact ⟨hpt, by simp [hjv]⟩
        have htl : t < tmps.size := by
         have hm : t ∈ vs := by
          have h3 := hvv i (by omega)
          rw [List.getElem?_append_right (by omega)] at h3
          rw [h1] at h3
          exact List.mem_of_getElem? h3
         exact Nat.lt_of_lt_of_le (hR.lt t hm) qsz
        rw [z3 nd2 _ hmem htl]
        exact hvr (i - caps.length) _ _ (by simp [hjv]) (by simp [hja])
      have hev : a0.eval (.tmp t) = tmps'.getD t undef := rfl
      rw [hev]
      exact SR.of_pure hval.dem hval.cp_dem
     ·simp only [st0] at h2
      rw [List.getElem?_append_right (by simpa using hi)] at h2
      rw [List.getElem?_replicate] at h2
      split at h2
      ·simp at h2; subst h2; trivial
      ·simp at h2
    ·intro i t h1
     have := hR.lt t (List.mem_of_getElem? h1)
     show t < tmps'.size
     rw [z1]; exact Nat.lt_of_lt_of_le this qsz
    ·show y'.nt ≤ tmps'.size
     rw [z1]; exact qsz
   have hLp : ∀ c, LpOK (E.opt opt) N y'.nt y'.fn c := by
    intro c ps kb vars hl
    simp only [Env.opt, hR.lps] at hl
    simp at hl
   have rec1 : ∀ {w' : World} {G' : GS} {st : St} {a : Act} {ready : Bool}, ExtD w G0 w' G' → BI N w' G' st a vs y'.nt → st.heap[n0]? = some (.loop ready) →
     ∃ r1 : Go.Loop, G'.heap n0 = some l ∧ G'.ow l = some (.hobj n0) ∧ (∀ o, ¬ G'.fix l o) ∧ w'.heap[l]? = some (.loop r1) ∧ r1.pending = none ∧ r1.state = (if ready then .ready else .busy) := by
    intro w' G' st a ready hext hb hl
    rcases hb.fi.heap.1 n0 _ hl with h | ⟨b, k1, k2, k3, r1, k4, k5⟩
    ·simp at h
    ·have : b = l := by
      have := Ext.heap hext n0 l ql
      rw [k1] at this; simpa using this
     subst this
     exact ⟨r1, k1, k2, k3, k4, k5⟩
   have turn : ∀ {w' : World} {G' : GS} {st : St} {a : Act} {ob : PObj} {r1 r2 : Go.Loop}, ExtD w G0 w' G' → BI N w' G' st a vs y'.nt → G'.heap n0 = some l → G'.ow l = some (.hobj n0) → (∀ o, ¬ G'.fix l o) → w'.heap[l]? = some (.loop r1) →
     (r2.fn, r2.tmps, r2.params, r2.assign, r2.body) = (r1.fn, r1.tmps, r1.params, r1.assign, r1.body) → ObjR N (w'.putObj l (.loop r2)) G' n0 l ob → ExtD w G0 (w'.putObj l (.loop r2)) G' ∧ BI N (w'.putObj l (.loop r2)) G' (hset st n0 ob) a vs y'.nt := by
    intro w' G' st a ob r1 r2 hext hb k1 k2 k3 k4 hrec hob
    have hlt : l < w'.heap.size := (Array.getElem?_eq_some_iff.1 k4).1
    obtain ⟨x1, x2⟩ := turn_obj (ob' := ob) (mob := .loop r2) hb.fi k1 k2 k3 (by simp [World.shape?, k4]) (by
     intro s hs
     simp only [loopOf, k4] at hs
     simp only [loopOf, Array.getElem?_setIfInBounds, hlt, if_true]
     simp only [Option.some.injEq] at hs ⊢
     rw [hrec]; exact hs) (.inr hob)
    exact ⟨hext.trans (.of x1), ⟨x2, hb.size⟩⟩
   have hobj : ∀ {w' : World} {G' : GS} {r1 r2 : Go.Loop}, w'.heap[l]? = some (.loop r1) → (w'.putObj l (.loop r2)).heap[l]? = some (.loop r2) := by
    intro w' G' r1 r2 k4
    exact World.putObj_heap_same (Array.getElem?_eq_some_iff.1 k4).1
   have nr : ∀ {p : PC}, p.RO = true → p.NR = true := by
    intro p
    induction p <;> simp_all [PC.RO, PC.NR]
   have last : ∀ {w' : World} {G' : GS} {st : St} {a : Act} {e : Ending}, ExtD w G0 w' G' → BI N w' G' st a vs y'.nt → (∀ G2, G2.heap = G'.heap → (∀ b o, G'.fix b o → G2.fix b o) → OutR N w' G2 e o) → st.heap = h' → ∃ G', OutR N w' G' e o ∧ Ext w G w' G' ∧ Between N w' G' h' := by
    intro w' G' st a e hext hb ho hh
    obtain ⟨l1, l2⟩ := leave_shut (w := w) (G := G) hext hb (DefW.refl w') (fun _ _ => rfl) st.vars []
    refine ⟨{ fix := (G'.shut (shutNs st.vars []) st.heap).fix, heap := G'.heap, box := fun _ => none, ow := onlyH G'.ow, df := G.df }, ho _ rfl (fun b o h => Or.inl h), l1, ?_⟩
    rw [← hh]; exact l2
   refine roundN hfn ?_
   unfold runRound at hc
   simp only [List.cons_append] at hc
   split at hc
   ·rename_i st1 hl0 hst1
    refine code_sound (rd' := some l) hF (hE.opt opt) hP hmix hR.nd n hrun (by rw [← hR.ca]; exact compC_cmp) hst1 hb0 (hLp _) (.inr hR.ra) (fun ⟨_, _, h⟩ => h) ?_
    intro a1 w1 G1 e he hb1 hext1 hd1
    simp only [ExitR] at he
    subst he
    have body : ∀ {x : PExit} {st2 : St}, st1.heap[n0]? = some (.loop true) → exec L n cb (hset st1 n0 (.loop false)) = some (x, st2) →
      (∀ a2 w2 G2 e2, ExitR N w2 G2 x e2 → BI N w2 G2 st2 a2 vs y'.nt → ExtD w G0 w2 G2 → (G2.df = []) → roundPostP P l (fun e w' => ∃ G', OutR N w' G' e o ∧ Ext w G w' G' ∧ Between N w' G' h') e2 a2 w2) →
      ∃ w2, (Instr.beginRound l).run P w1 = .ok () w2 ∧ wpN (some l) y'.fn P y'.body (roundPostP P l (fun e w' => ∃ G', OutR N w' G' e o ∧ Ext w G w' G' ∧ Between N w' G' h')) a1 w2 := by
     intro x st2 hl1 hst2 hq
     obtain ⟨r1, k1, k2, k3, k4, k5, k6⟩ := rec1 hext1 hb1 hl1
     refine ⟨_, run_beginRound k4 (by rw [k6]; rfl), ?_⟩
     obtain ⟨t1, t2⟩ := turn (ob := .loop false) (r2 := { r1 with state := .busy }) hext1 hb1 k1 k2 k3 k4 rfl ⟨k3, _, hobj (G' := G1) k4, k5, rfl⟩
     refine code_sound (rd' := some l) hF (hE.opt opt) hP hmix hR.nd n hrun (by rw [← hR.cb]; exact compC_cmp) hst2 t2 (hLp _) (.inr hR.rb) (fun ⟨_, _, h⟩ => h) ?_
     intro a2 w2 G2 e2 h1 h2 h3 h4
     have hd : G2.df = [] := by
      have d1 : G1.df = [] := by
       obtain ⟨ms, m1, _, m3⟩ := hd1
       rw [m1, m3 (nr hR.ra)]; rfl
      have d2 : (∃ ms, G2.df = ms ++ G1.df ∧ Marks (w1.putObj l (.loop { r1 with state := .busy })) w2 G2 ms ∧ (cb.NR = true → ms = [])) ∨ ∃ d, G2.df = d :: G1.df := by
       unfold DfR at h4
       cases x with
       | after kd cs v => exact .inr (h4 (nr hR.rb))
       | _ => exact .inl h4
      rcases d2 with ⟨ms, m1, _, m3⟩ | ⟨d, hd⟩
      ·rw [m1, m3 (nr hR.rb), d1]; rfl
      ·exfalso
       cases x with
       | after kd cs v => exact noAfter hR.rb hst2
       | _ =>
         obtain ⟨ms, m1, _, m3⟩ := h4
         rw [m1, m3 (nr hR.rb)] at hd
         simp at hd
     exact hq a2 w2 G2 e2 h1 h2 (t1.trans h3) hd
    split at hc
    ·rename_i st2 hl1 hst2
     split at hc
     ·rename_i hl2
      simp only [Option.some.injEq, Prod.mk.injEq] at hc
      obtain ⟨rfl, rfl⟩ := hc
      refine body hl1 hst2 ?_
      intro a2 w2 G2 e2 h1 h2 h3 _
      simp only [ExitR] at h1
      subst h1
      obtain ⟨r2, k1, k2, k3, k4, k5, k6⟩ := rec1 h3 h2 hl2
      refine ⟨_, _, run_endRound none k4, ?_⟩
      obtain ⟨t1, t2⟩ := turn (ob := .loop true) (r2 := { r2 with state := if (none : Option Code).isNone then .ready else .done, pending := none }) h3 h2 k1 k2 k3 k4 rfl ⟨k3, _, hobj (G' := G2) k4, rfl, rfl⟩
      exact last t1 t2 (fun G3 _ _ => ⟨_, rfl, .bool true⟩) rfl
     ·simp at hc
    ·rename_i v st2 hl1 hst2
     simp only [Option.some.injEq, Prod.mk.injEq] at hc
     obtain ⟨rfl, rfl⟩ := hc
     refine body hl1 hst2 ?_
     rintro a2 w2 G2 e2 ⟨v', rfl, hv⟩ h2 h3 h4
     refine ⟨by rw [h2.fi.defers]; exact h4, ?_⟩
     exact last h3 h2 (fun G3 g1 g2 => ⟨v', rfl, by rw [g1]; exact hv.mono (fun b o hf => ⟨g2 b o hf, rfl⟩) (fun _ _ h => h) (ShapeLe.refl _)⟩) rfl
    ·rename_i id st2 hl1 hst2
     split at hc
     ·rename_i hl2
      simp only [Option.some.injEq, Prod.mk.injEq] at hc
      obtain ⟨rfl, rfl⟩ := hc
      refine body hl1 hst2 ?_
      intro a2 w2 G2 e2 h1 h2 h3 _
      simp only [ExitR] at h1
      subst h1
      obtain ⟨r2, k1, k2, k3, k4, k5, k6⟩ := rec1 h3 h2 hl2
      refine ⟨_, _, run_endRound (some (.exit id)) k4, ?_⟩
      obtain ⟨t1, t2⟩ := turn (ob := .over (some id)) (r2 := { r2 with state := if (some (Code.exit id)).isNone then .ready else .done, pending := some (.exit id) }) h3 h2 k1 k2 k3 k4 rfl ⟨k3, _, hobj (G' := G2) k4, rfl, rfl⟩
      exact last t1 t2 (fun G3 _ _ => ⟨_, rfl, .bool false⟩) rfl
     ·simp at hc
    ·rename_i st2 hl1 hst2
     split at hc
     ·rename_i hl2
      simp only [Option.some.injEq, Prod.mk.injEq] at hc
      obtain ⟨rfl, rfl⟩ := hc
      refine body hl1 hst2 ?_
      intro a2 w2 G2 e2 h1 h2 h3 _
      simp only [ExitR] at h1
      subst h1
      obtain ⟨r2, k1, k2, k3, k4, k5, k6⟩ := rec1 h3 h2 hl2
      refine ⟨_, _, run_endRound (some .ret) k4, ?_⟩
      obtain ⟨t1, t2⟩ := turn (ob := .over none) (r2 := { r2 with state := if (some Code.ret).isNone then .ready else .done, pending := some .ret }) h3 h2 k1 k2 k3 k4 rfl ⟨k3, _, hobj (G' := G2) k4, rfl, rfl⟩
      exact last t1 t2 (fun G3 _ _ => ⟨_, rfl, .bool false⟩) rfl
     ·simp at hc
    ·simp at hc
   ·simp at hc
 | _ => simp at hx1
theorem ownWith_head {ex : PC → St → Option (PExit × St)} {f : PFunc} {args : List PV} {h : List PObj} {r} (hc : ownWith ex f args h = some r) : ∃ rest, args = .dead :: rest := by
 unfold ownWith at hc
 split at hc
 ·exact ⟨_, rfl⟩
 ·cases hc
theorem ownWith_plain {ex : PC → St → Option (PExit × St)} {f : PFunc} {args : List PV} {h : List PObj} {r} (hc : ownWith ex f args h = some r) : f.code.isRound = false := by
 unfold ownWith at hc
 have one : ∀ {o : Option Nat} {args : List PV}, runOwn ex f o args h = some r → f.code.isRound = false := by
  intro o args hr
  unfold runOwn at hr
  split at hr
  ·simp at hr
  ·rename_i hn; simpa using hn
 split at hc
 ·split at hc
  ·split at hc
   ·split at hc
    ·exact one (agree_some.1 hc).1
    ·exact one hc
   ·simp at hc
  ·simp at hc
 ·simp at hc
theorem runs_sound {L : Nat → Option PFunc} (hE : EnvOk E N) (hP : E.P = P) (hmix : P.follows .mixedOrders = true) (hL : ∀ k pf, L k = some pf → FnS E N k pf) : ∀ n, Runs N P L n := by
 have hF : FnsOK N P L := by
  intro k pf hk
  rcases hL k pf hk with hL | ⟨y, fn, vs, o, a, b, h⟩
  rcases hL.2.2.2 with ⟨_, _, fn, vs, h1, h2, _, _, _, _, _, _, h3, _⟩ | ⟨g, fn, _, _, h1, h2, h3, _⟩ | ⟨g, fn, _, _, _, h1, h2, h3, _⟩
  ·refine ⟨fn, by rw [← hP]; exact h1, h2, ?_⟩
   cases hb : fn.body with
   | none => rw [hb] at h3; simp at h3
   | some c => rfl
  ·exact ⟨fn, by rw [← hP]; exact h1, h2, h3⟩
  ·exact ⟨fn, by rw [← hP]; exact h1, h2, h3⟩
  ·exact ⟨fn, by rw [← hP, h.no]; exact h.inP, h.name, h.body⟩
 intro n
 induction n using Nat.strongRecOn with
 | _ n ihn =>
   have prim : ∀ {k : Nat} {pf : PFunc} {g} {args : List PV} {r : PV} {h0 h' : List PObj}, L k = some pf → pf.prim = some g → g (args.map dem) h0 = some (r, h') → ∀ (w : World) (G : GS) (vals : Array Value), Between N w G h0 → vals.size = args.length →
     (∀ (i : Nat) (v : Value) (p : PV), vals[i]? = some v → args[i]? = some p → VR N w G.fix G.heap v p) →
     Calls P (N.fn k) vals w fun e w' => ∃ v G', e = .returned v ∧ VR N w' G'.fix G'.heap v r ∧ Ext w G w' G' ∧ Between N w' G' h' := by
    intro k pf g args r h0 h' hpf hpn hc w G vals hbt hsz hvr
    have hpl : FnF E N k pf := by
     rcases hL k pf hpf with h | ⟨y, fn, vs, o, a, b, h⟩
     ·exact h
     ·rw [h.prim] at hpn; simp at hpn
    rcases hpl.2.2.2 with ⟨h, _⟩ | ⟨g', fn, h, _, _, _, _, hprim⟩ | ⟨_, _, h, _⟩
    ·rw [h] at hpn; simp at hpn
    ·rw [h] at hpn
     simp only [Option.some.injEq] at hpn
     subst hpn
     rw [hP] at hprim
     refine hprim (args.map dem) r h0 h' hc w G vals hbt (by simpa using hsz) ?_
     intro i v p hv hp
     simp only [List.getElem?_map, Option.map_eq_some_iff] at hp
     obtain ⟨q, hq, rfl⟩ := hp
     exact (hvr i v q hv hq).dem
    ·rw [h] at hpn; simp at hpn
   have code : ∀ {k : Nat} {pf : PFunc} {args : List PV} {o : Out} {h0 h' : List PObj}, L k = some pf → pf.code.isRound = false → pf.prim = none → runOut (exec L n) (dfrOf L) pf args h0 = some (o, h') → args.length = pf.params → ∀ (w : World) (G : GS) (vals : Array Value), Between N w G h0 → vals.size = args.length →
     (∀ (i : Nat) (v : Value) (p : PV), vals[i]? = some v → args[i]? = some p → VR N w G.fix G.heap v p) →
     Calls P (N.fn k) vals w fun e w' => ∃ G', OutR N w' G' e o ∧ Ext w G w' G' ∧ Between N w' G' h' := by
    intro k pf args o h0 h' hpf hnr0 hpn hc hal w G vals hbt hsz hvr
    obtain ⟨_, hnr, _, hcase⟩ := (hL k pf hpf).plain hnr0
    rcases hcase with ⟨_, _, fn, vs, hLk⟩ | ⟨g', fn, h, _⟩ | ⟨_, _, _, hx, _⟩
    ·exact fn_sound hE hP hmix hF hL ihn hLk hnr hc hal hbt hsz hvr
    ·rw [h] at hpn; simp at hpn
    ·unfold runOut at hc
     rw [hx] at hc
     cases n with
     | zero => simp [exec] at hc
     | succ n => simp [exec] at hc
   refine ⟨⟨?_, ?_⟩, ?_, ?_, ?_⟩
   ·intro k args r h0 h' hc
    unfold callWith at hc
    split at hc
    ·simp at hc
    ·rename_i pf hpf
     have hnr0 : pf.prim = none → pf.code.isRound = false := by
      intro hpn
      cases hx : pf.code.isRound with
      | false => rfl
      | true =>
        exfalso
        split at hc
        ·rw [hpn] at hc
         simp only at hc
         split at hc
         ·simp only [runFn, hx, if_true] at hc
          unfold agree at hc
          split at hc <;> simp at hc
         ·simp only [runFn, hx, if_true] at hc
          simp at hc
        ·have := ownWith_plain hc
         rw [hx] at this; simp at this
     have hpl : FnF E N k pf := by
      rcases hL k pf hpf with h | ⟨y, fn, vs, o, a, b, h⟩
      ·exact h
      ·have := hnr0 h.prim
       rw [h.code] at this; simp [PC.isRound] at this
     refine ⟨hpl.1, ?_⟩
     intro w G vals hbt hsz hvr
     split at hc
     ·rename_i hal
      split at hc
      ·rename_i g hpn
       simp only [Option.map_eq_some_iff, Prod.mk.injEq] at hc
       obtain ⟨⟨r1, h1⟩, hg, rfl, rfl⟩ := hc
       refine (prim hpf hpn hg w G vals hbt hsz hvr).mono ?_
       rintro e w' ⟨v, G', rfl, hv, h2, h3⟩
       exact ⟨v, G', rfl, hv.dem, h2, h3⟩
      ·rename_i hpn
       have hnr := hpl.2.1
       suffices H : ∀ args : List PV, args.length = pf.params → runFn (exec L n) (dfrOf L) pf args h0 = some (r, h') → vals.size = args.length →
         (∀ (i : Nat) (v : Value) (p : PV), vals[i]? = some v → args[i]? = some p → VR N w G.fix G.heap v p) →
         Calls P (N.fn k) vals w fun e w' => ∃ v G', e = .returned v ∧ VR N w' G'.fix G'.heap v r ∧ Ext w G w' G' ∧ Between N w' G' h' by
        split at hc
        ·rename_i hsp
         simp only [Bool.and_eq_true] at hsp
         have hag : runFn (exec L n) (dfrOf L) pf (.nils :: args.tail) h0 = some (r, h') ∧ runFn (exec L n) (dfrOf L) pf (.void :: args.tail) h0 = some (r, h') := by
          unfold agree at hc
          split at hc
          ·rename_i he; exact ⟨hc, he ▸ hc⟩
          ·simp at hc
         cases args with
         | nil => simp [vague] at hsp
         | cons p ps =>
           have hv0 : ∃ v, vals[0]? = some v := by
            have h0 : 0 < vals.size := by rw [hsz]; simp
            exact ⟨vals[0], by simp [h0]⟩
           obtain ⟨v0, hv0⟩ := hv0
           have hrest : ∀ q, VR N w G.fix G.heap v0 q → ∀ (i : Nat) (v : Value) (p' : PV), vals[i]? = some v → (q :: ps)[i]? = some p' → VR N w G.fix G.heap v p' := by
            intro q hq i v p' h1 h2
            cases i with
            | zero => rw [hv0] at h1; simp at h1 h2; subst h1 h2; exact hq
            | succ i => exact hvr (i + 1) v p' h1 (by simpa using h2)
           rcases (hvr 0 v0 p hv0 rfl).vague hsp.2 with h | h
           ·exact H _ (by simpa using hal) hag.1 (by simpa using hsz) (hrest _ h)
           ·exact H _ (by simpa using hal) hag.2 (by simpa using hsz) (hrest _ h)
        ·exact H args hal hc hsz hvr
       clear hc hal hsz hvr hnr0 args
       intro args hal hc hsz hvr
       unfold runFn at hc
       rw [hnr] at hc
       simp only [Bool.false_eq_true, if_false] at hc
       unfold valOf at hc
       split at hc
       ·rename_i r' h1 hro
        simp only [Option.some.injEq, Prod.mk.injEq] at hc
        obtain ⟨rfl, rfl⟩ := hc
        refine (code hpf hnr hpn hro hal w G vals hbt hsz hvr).mono ?_
        rintro e w' ⟨G', ⟨v, rfl, hv⟩, h2, h3⟩
        exact ⟨v, G', rfl, hv, h2, h3⟩
       ·simp at hc
     ·skip
      exfalso
      obtain ⟨ps, rfl⟩ := ownWith_head hc
      ·have h0 : 0 < vals.size := by rw [hsz]; simp
       have h1 := hvr 0 vals[0] .dead (by simp [h0]) rfl
       generalize vals[0] = v0 at h1
       cases h1
   ·intro k own args r h' hc
    unfold callWith at hc
    split at hc
    ·simp at hc
    ·rename_i pf hpf
     have hnl : (ownArgs own args).length = pf.params → False := by
      intro hl
      rcases hL k pf hpf with h | ⟨y, fn, vs, o, a, b, h⟩
      ·have := h.2.2.1
       rw [ownArgs_len] at hl
       omega
      ·rw [if_pos hl, h.prim] at hc
       simp only [runFn, h.code, PC.isRound, if_true] at hc
       split at hc
       ·unfold agree at hc
        split at hc <;> simp at hc
       ·simp at hc
     rw [if_neg hnl] at hc
     have hnr := ownWith_plain hc
     have hpl := (hL k pf hpf).plain hnr
     refine ⟨hpl.1, ?_⟩
     intro w G vals hin
     rw [ownWith_args] at hc
     split at hc
     ·rename_i hal
      obtain ⟨hal, hpn⟩ := hal
      suffices H : ∀ args : List PV, args.length = pf.params → runOwn (exec L n) pf own args [] = some (r, h') → OwnIn N w G own args vals →
        Calls P (N.fn k) vals w fun e w' => ∃ v G', e = .returned v ∧ VR N w' G'.fix G'.heap v r ∧ Ext w G w' G' ∧ (∀ b o, G'.fix b o → b < w'.heap.size) ∧ ∀ es, r = .list true es → Spare w G w' G' v es by
       split at hc
       ·rename_i hsp
        simp only [Bool.and_eq_true] at hsp
        have hag := agree_some.1 hc
        cases args with
        | nil => simp [vague] at hsp
        | cons p ps =>
          have hv0 : ∃ v, vals[0]? = some v := by
           have h0 : 0 < vals.size := by rw [hin.size]; simp
           exact ⟨vals[0], by simp [h0]⟩
          obtain ⟨v0, hv0⟩ := hv0
          have hrest : ∀ q, (∀ es, q ≠ .list true es) → VR N w G.fix G.heap v0 q → OwnIn N w G own (q :: ps) vals := by
           intro q hq1 hq
           refine ⟨hin.ow, hin.box, hin.heap, hin.fixlt, hin.owlt, hin.tab, by simpa using hin.size, ?_, ?_⟩
           ·intro i v p' h1 h2
            cases i with
            | zero => rw [hv0] at h1; simp at h1 h2; subst h1 h2; exact hq
            | succ i => exact hin.vr (i + 1) v p' h1 (by simpa using h2)
           ·intro i v es hi h1 h2
            cases i with
            | zero => simp at h2; exact absurd h2 (hq1 es)
            | succ i => exact hin.room (i + 1) v es hi h1 (by simpa using h2)
          rcases (hin.vr 0 v0 p hv0 rfl).vague hsp.2 with h | h
          ·exact H _ (by simpa using hal) hag.1 (hrest _ (by intro es; simp) h)
          ·exact H _ (by simpa using hal) hag.2 (hrest _ (by intro es; simp) h)
       ·exact H args hal hc hin
      clear hc hal hin hnl args
      intro args hal hc hin
      rcases hpl.2.2.2 with ⟨_, _, fn, vs, hLk⟩ | ⟨g', fn, h, _⟩ | ⟨_, _, _, hx, _⟩
      ·exact own_sound hE hP hmix hF ihn hLk hc hal hin
      ·rw [h] at hpn; simp at hpn
      ·unfold runOwn at hc
       rw [hx] at hc
       cases n with
       | zero => simp [exec] at hc
       | succ n => simp [exec] at hc
     ·simp at hc
   ·intro k args o h0 h' hc hky w G vals hbt hsz hvr
    unfold outWith at hc
    split at hc
    ·simp at hc
    ·rename_i pf hpf
     split at hc
     ·rename_i hal
      split at hc
      ·rename_i g hpn
       simp only [Option.map_eq_some_iff, Prod.mk.injEq] at hc
       obtain ⟨⟨r, h1⟩, hg, rfl, rfl⟩ := hc
       refine (prim hpf hpn hg w G vals hbt hsz hvr).mono ?_
       rintro e w' ⟨v, G', rfl, hv, h2, h3⟩
       exact ⟨G', ⟨v, rfl, hv.dem⟩, h2, h3⟩
      ·rename_i hpn
       exact code hpf ((hL k pf hpf).plainY hky).2.1 hpn hc hal.1 w G vals hbt hsz hvr
     ·simp at hc
   ·intro k y n0 l tmps caps args o h0 h' hy hc w G vals hbt hyv hsz hvr
    unfold outWith at hc
    split at hc
    ·simp at hc
    ·rename_i pf hpf
     rcases hL k pf hpf with h | ⟨y', fn, vs, o', ca, cb, h⟩
     ·have := h.1
      rw [hy] at this
      simp at this
     ·have : y' = y := by have := h.yl; rw [hy] at this; simpa using this.symm
      subst this
      split at hc
      ·rename_i hal
       rw [h.prim] at hc
       simp only [runOut, h.code] at hc
       exact round_sound hE hP hmix hF ihn h hc (by rw [hal.1, h.params]) hbt hyv hsz hvr
      ·simp at hc
   ·intro k hk
    unfold noRound at hk
    split at hk
    ·rename_i f hf
     exact ((hL k f hf).plain (by simpa using hk)).1
    ·simp at hk
theorem call_sound {L : Nat → Option PFunc} (hE : EnvOk E N) (hP : E.P = P) (hmix : P.follows .mixedOrders = true) (hL : ∀ k pf, L k = some pf → FnS E N k pf) :
  ∀ n, CallOK N P (callWith (exec L n) L) := fun n => (runs_sound hE hP hmix hL n).call
end
end PI
