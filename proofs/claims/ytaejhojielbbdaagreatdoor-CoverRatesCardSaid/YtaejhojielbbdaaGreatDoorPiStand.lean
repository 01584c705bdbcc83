/-
  That functions, and rounds of loops over functions, stand in a program: out of closed facts.
-/
import Derived.Test.YtaejhojielbbdaaGreatDoorPiFunc
set_option linter.unusedSimpArgs false
set_option linter.unusedVariables false
set_option linter.unusedSectionVars false
namespace PI
open Go Go.RowKit
def fnChk (fn : Func) (pf : PFunc) (vs : List Tmp) : Bool :=
 decide (pf.params < 1000) && decide vs.Nodup && vs.all (fun t => decide (t < fn.ntmps)) && vs.length == pf.nv && decide (pf.params ≤ pf.nv) && vs.take pf.params == List.range pf.params
/-- The rounds of a function's loop. -/
def yOf (fn : Func) (fid : FuncId) (j : Nat) (vars : List Tmp) : Option YL := (fn.body.bind fun c => (loopsIn c)[j]?).map fun x => ⟨fid, x.1, x.2.1, x.2.2, vars, fn.ntmps⟩
def LpsOK (N : Nm) (fn : Func) (fid : FuncId) (pss : List (Array Tmp)) : List (Array Tmp × Nat × List Tmp) → Prop
 | [] => True
 | x :: xs => (∃ j, N.yl x.2.1 = yOf fn fid j x.2.2 ∧ pss[j]? = some x.1) ∧ LpsOK N fn fid pss xs
theorem LpsOK.mem {N : Nm} {fn : Func} {fid : FuncId} {pss : List (Array Tmp)} : ∀ {l : List (Array Tmp × Nat × List Tmp)}, LpsOK N fn fid pss l → ∀ x ∈ l, ∃ j, N.yl x.2.1 = yOf fn fid j x.2.2 ∧ pss[j]? = some x.1
 | [], _, x, hx => by simp at hx
 | y :: l, h, x, hx => by
   rcases List.mem_cons.1 hx with rfl | hx
   ·exact h.1
   ·exact LpsOK.mem h.2 x hx
section
variable {E : Env} {N : Nm} {k : Nat} {pf : PFunc} {fn : Func} {fid : FuncId}
theorem fnSL (vs : List Tmp) (o : Opts) (pss : List (Array Tmp)) (hf : E.P.funcs[fid]? = some fn) (h : (fn.body.map (fun c => compC (E.opt o) fn.ntmps vs c), cRess E.P o.kp vs fn.results.toList, fnChk fn pf vs, fn.body.map fun c => (loopsIn c).map (·.1)) = (some pf.code, some pf.results, true, some pss))
  (hn : fn.name ≠ "runtime.NumGoroutine") (hnd : pss.Nodup) (hl : LpsOK N fn fid pss o.lps)
  (hno : N.fn k = fid := by rfl) (hy : N.yl k = none := by rfl) (hr : pf.code.isRound = false := by rfl) (hp : pf.prim = none := by rfl) (hd : pf.defer = none := by rfl) : FnS E N k pf := by
 simp only [Prod.mk.injEq] at h
 obtain ⟨h1, h2, h3, h4⟩ := h
 simp only [fnChk, Bool.and_eq_true, decide_eq_true_eq, beq_iff_eq, List.all_eq_true] at h3
 obtain ⟨⟨⟨⟨⟨a0, a1⟩, a2⟩, a3⟩, a4⟩, a5⟩ := h3
 refine .inl ⟨hy, hr, a0, .inl ⟨hp, hd, fn, vs, by rw [hno]; exact hf, hn, a1, a2, a3, a4, ?_, o, h1, .inr ?_, h2⟩⟩
 ·intro i hi
  have : (vs.take pf.params)[i]? = some i := by rw [a5]; simp [hi]
  rwa [List.getElem?_take, if_pos hi] at this
 ·intro c hc ps kb vars hm z hz hzp
  obtain ⟨j, j1, j2⟩ := hl.mem _ hm
  rw [hc] at h4
  simp only [Option.map_some, Option.some.injEq] at h4
  subst h4
  obtain ⟨i, hi⟩ := List.mem_iff_getElem?.1 hz
  have hij : i = j := by
   have hi' : ((loopsIn c).map (·.1))[i]? = some ps := by simp [hi, hzp]
   obtain ⟨b1, b2⟩ := List.getElem?_eq_some_iff.1 hi'
   obtain ⟨b3, b4⟩ := List.getElem?_eq_some_iff.1 j2
   refine Classical.byContradiction fun hne => ?_
   rcases Nat.lt_or_gt_of_ne hne with hlt | hlt
   ·exact List.pairwise_iff_getElem.1 hnd i j b1 b3 hlt (b2.trans b4.symm)
   ·exact List.pairwise_iff_getElem.1 hnd j i b3 b1 hlt (b4.trans b2.symm)
  subst hij
  rw [hno]
  simp only at j1
  rw [j1]
  simp [yOf, hc, hi, hzp]
theorem fnS (vs : List Tmp) (o : Opts) (hf : E.P.funcs[fid]? = some fn) (h : (fn.body.map (fun c => compC (E.opt o) fn.ntmps vs c), cRess E.P o.kp vs fn.results.toList, fnChk fn pf vs) = (some pf.code, some pf.results, true))
  (hn : fn.name ≠ "runtime.NumGoroutine") (hl : o.lps = [] := by rfl)
  (hno : N.fn k = fid := by rfl) (hy : N.yl k = none := by rfl) (hr : pf.code.isRound = false := by rfl) (hp : pf.prim = none := by rfl) (hd : pf.defer = none := by rfl) : FnS E N k pf := by
 simp only [Prod.mk.injEq] at h
 obtain ⟨h1, h2, h3⟩ := h
 simp only [fnChk, Bool.and_eq_true, decide_eq_true_eq, beq_iff_eq, List.all_eq_true] at h3
 obtain ⟨⟨⟨⟨⟨a0, a1⟩, a2⟩, a3⟩, a4⟩, a5⟩ := h3
 refine .inl ⟨hy, hr, a0, .inl ⟨hp, hd, fn, vs, by rw [hno]; exact hf, hn, a1, a2, a3, a4, ?_, o, h1, .inl hl, h2⟩⟩
 intro i hi
 have : (vs.take pf.params)[i]? = some i := by rw [a5]; simp [hi]
 rwa [List.getElem?_take, if_pos hi] at this
def rdChk (nt : Nat) (pf : PFunc) (vars : List Tmp) (ps : Array Tmp) (vs : List Tmp) (a b : PC) : Bool :=
 a.RO && b.RO && decide vs.Nodup && vs.all (fun t => decide (t < nt)) && vs.length == pf.nv && pf.params == 1 + (vars.length + ps.size) && vs.take (vars.length + ps.size) == vars ++ ps.toList
/-- The rounds of a loop. -/
theorem rdS (vars vs : List Tmp) (o : Opts) (j : Nat) (ps : Array Tmp) {a b : PC} (hcode : pf.code = .round a b) (hf : E.P.funcs[fid]? = some fn)
  (h : ((fn.body.bind fun c => (loopsIn c)[j]?).map fun z => (z.1, compC (E.opt o) fn.ntmps vs z.2.1, compC (E.opt o) fn.ntmps vs z.2.2)) = some (ps, a, b)) (hchk : rdChk fn.ntmps pf vars ps vs a b = true)
  (hn : fn.name ≠ "runtime.NumGoroutine") (hy : N.yl k = yOf fn fid j vars := by rfl) (hno : N.fn k = fid := by rfl) (hl : o.lps = [] := by rfl) (hp : pf.prim = none := by rfl) (hd : pf.defer = none := by rfl) : FnS E N k pf := by
 simp only [Option.map_eq_some_iff, Option.bind_eq_some_iff, Prod.mk.injEq] at h
 obtain ⟨z, ⟨c, hc, hz⟩, rfl, h2, h3⟩ := h
 simp only [rdChk, Bool.and_eq_true, decide_eq_true_eq, beq_iff_eq, List.all_eq_true] at hchk
 obtain ⟨⟨⟨⟨⟨⟨a0, a1⟩, a2⟩, a3⟩, a4⟩, a5⟩, a6⟩ := hchk
 refine .inr ⟨⟨fid, z.1, z.2.1, z.2.2, vars, fn.ntmps⟩, fn, vs, o, a, b, ⟨by rw [hy]; simp [yOf, hc, hz], hcode, a0, a1, hp, hd, hf, hno, hn, by simp [hc], a2, a3, a4, a5, a6, hl, h2, h3⟩⟩
/-- All functions of a list, from a number on, stand. -/
def AllFn (E : Env) (N : Nm) : Nat → List (Option PFunc) → Prop
 | _, [] => True
 | n, none :: fs => AllFn E N (n + 1) fs
 | n, some f :: fs => FnS E N n f ∧ AllFn E N (n + 1) fs
theorem AllFn.get : ∀ {fs : List (Option PFunc)} {n : Nat}, AllFn E N n fs → ∀ {k : Nat} {f : PFunc}, fs[k]?.join = some f → FnS E N (n + k) f
 | [], n, _, k, f, hk => by simp at hk
 | o :: fs, n, h, 0, f, hk => by
   simp at hk; subst hk
   exact h.1
 | o :: fs, n, h, k + 1, f, hk => by
   have h' : AllFn E N (n + 1) fs := by cases o with
    | none => exact h
    | some g => exact h.2
   have := AllFn.get h' (k := k) (f := f) (by simpa using hk)
   rwa [show n + 1 + k = n + (k + 1) by omega] at this
end
end PI
