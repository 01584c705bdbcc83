/-
  Deferred closures that recover a panic: f, ok := recover().(failed); if ok { w, e = f.at, f.e }
-/
import Derived.Test.YtaejhojielbbdaaGreatDoorPiFunc
import Derived.Test.YtaejhojielbbdaaGreatDoorPiWp
import Derived.RecoverIn
set_option linter.unusedSimpArgs false
set_option linter.unusedVariables false
set_option linter.unusedSectionVars false
namespace PI
open Go Go.RowKit
/-- What such a closure leaves of the heap; t: the type of the panic's value. -/
def pRec (t : Nat) (args : List PV) (h : List PObj) : Option (List PObj) :=
 match args with
 | [.nilIface, .ptr _ 0, .ptr _ 0] => some h
 | [.iface t' (.agg [.int k1 a, .int k2 b, .int k3 c]), .ptr n 0, .ptr m 0] =>
   if t' = t ∧ n ≠ m then
    match h[n]?, h[m]? with
    | some (.cells [_, _]), some (.cells [_]) => some ((h.set n (.cells [.int k1 a, .int k2 b])).set m (.cells [.int k3 c]))
    | _, _ => none
   else none
 | _ => none
theorem pRec_nil (t n m : Nat) (h : List PObj) : pRec t [.nilIface, .ptr n 0, .ptr m 0] h = some h := rfl
/-- Operations that give a value, or none. -/
def plainOp (o : Oper) : Bool :=
 match o.op with
 | .move _ | .assign _ | .extract _ _ | .alloc _ | .store _ _ _ | .load _ _ | .fieldAddr _ _ _ => true
 | _ => false
section
variable {P : Program} {w : World}
theorem plain_run {o : Oper} (h : plainOp o = true) {ρ : Operand → Value} : (∀ r w', (execOp ρ o).run P w = .ok r w' → (∃ v, r = .value v) ∨ r = .skip) ∧ True := by
 refine ⟨?_, trivial⟩
 intro r w' hr
 have val : ∀ (s : Sem Value), (do pure (.value (← s)) : Sem Next).run P w = .ok r w' → ∃ v, r = .value v := by
  intro s hs
  rw [Sem.run_bind] at hs
  cases hx : s.run P w with
  | ok v w1 => rw [hx] at hs; simp only [Result.andThen_ok, Sem.run_pure, Result.ok.injEq] at hs; exact ⟨v, hs.1.symm⟩
  | halt x w1 => rw [hx] at hs; simp [Result.andThen] at hs
 have unit : ∀ (s : Sem Unit), (do s; pure .skip : Sem Next).run P w = .ok r w' → r = .skip := by
  intro s hs
  rw [Sem.run_bind] at hs
  cases hx : s.run P w with
  | ok v w1 => rw [hx] at hs; simp only [Result.andThen_ok, Sem.run_pure, Result.ok.injEq] at hs; exact hs.1.symm
  | halt x w1 => rw [hx] at hs; simp [Result.andThen] at hs
 unfold plainOp at h
 unfold execOp at hr
 cases hop : o.op <;> rw [hop] at h hr <;> simp only [reduceCtorEq, Bool.false_eq_true] at h
 all_goals first
  | exact .inl (val _ hr)
  | exact .inr (unit _ hr)
  | (simp only [Sem.run_pure, Result.ok.injEq] at hr; exact .inl ⟨_, hr.1.symm⟩)
theorem wpOpsSIn_of {ops : Array Oper} {Q : Exit → Act → List Frame → World → Prop} {cs : List Frame} : ∀ {l : List Nat} {a : Act} {w : World}, (∀ i ∈ l, ∀ o, ops[i]? = some o → plainOp o = true) → ¬ LetsOut (fun e a w => Q e a cs w) →
  wpOps P ops (fun e a w => Q e a cs w) l a w → wpOpsSIn (W none) 0 P ops Q l a cs w
 | [], a, w, _, _, h => h
 | i :: l, a, w, hp, hQ, h => by
   simp only [wpOps] at h
   simp only [wpOpsSIn]
   cases ho : ops[i]? with
   | none => simp only [ho] at h ⊢; exact wpOpsSIn_of (fun j hj => hp j (by simp [hj])) hQ h
   | some o =>
     simp only [ho] at h ⊢
     refine ⟨fun _ _ => W_fn _, ?_⟩
     split at h
     ·rename_i hw
      rw [if_pos hw]
      rcases h with h | ⟨_, h⟩
      ·unfold Oper.wp at h
       have hpl := (plain_run (P := P) (w := w) (hp i (by simp) o ho) (ρ := a.eval)).1
       generalize (execOp a.eval o).run P w = res at h hpl
       cases res with
       | ok r w' =>
         rcases hpl r w' rfl with ⟨v, rfl⟩ | rfl
         ·exact wpOpsSIn_of (fun j hj => hp j (by simp [hj])) hQ h
         ·exact wpOpsSIn_of (fun j hj => hp j (by simp [hj])) hQ h
       | halt x w' => cases x <;> simp only [Oper.upon] at h ⊢ <;> first | exact h | exact h.elim
      ·exact absurd h hQ
     ·rename_i hw
      rw [if_neg hw]
      exact wpOpsSIn_of (fun j hj => hp j (by simp [hj])) hQ h
theorem wpSIn_of_wpN {c : Code} {Q : Exit → Act → List Frame → World → Prop} {a : Act} {cs : List Frame} (h : ∀ fid, wpN none fid P c (fun e a w => Q e a cs w) a w) : c.wpSIn (W none) 0 P Q a cs w := by
 intro b k _ hr _ _
 obtain ⟨e, a', w', q, r⟩ := h b.fn b k cs hr rfl
 exact ⟨e, a', cs, w', rfl, q, r⟩
end
section
variable {E : Env} {N : Nm} {P : Program}
/-- No function at all. -/
def L0 : Nat → Option PFunc := fun _ => none
theorem runs0 (n : Nat) : Runs N P L0 n := by
 refine ⟨⟨?_, ?_⟩, ?_, ?_, ?_⟩
 ·intro k args r h h' hc; simp [callWith, L0] at hc
 ·intro k own args r h' hc; simp [callWith, L0] at hc
 ·intro k args o h h' hc; simp [outWith, L0] at hc
 ·intro k y n l tmps caps args o h h' _ hc; simp [outWith, L0] at hc
 ·intro k hk; simp [noRound, L0] at hk
theorem fns0 : FnsOK N P L0 := by intro k f h; simp [L0] at h
/-- A closure's first two operations have been run; the rest is run by the pure interpreter. -/
theorem dfr_sound (hE : EnvOk E N) (hP : E.P = P) (hmix : P.follows .mixedOrders = true) (hlps : E.lps = []) {k : Nat} {fn : Func} {id0 : Nat} {ops0 : Array Oper} {c2 : Code} {vs : List Tmp} {pos0 : List PO} {d5 d6 : Tmp} {tA T t : Nat} {z : PV} {nv q : Nat} {o0 o1 : Oper} {g : List PV → List PObj → Option (List PObj)}
  (hf : P.funcs[N.fn k]? = some fn) (hb : fn.body = some (.seq (.region id0 ops0 false) c2)) (hres : fn.results = #[])
  (h0 : ops0[0]? = some o0) (h0o : ∃ ts, o0.op = .call { callee := .builtin .recover, args := #[], argTypes := ts }) (h0d : o0.dst = some d5) (h0g : o0.guard = none)
  (h1 : ops0[1]? = some o1) (h1o : o1.op = .typeAssert (.tmp d5) tA T true) (h1d : o1.dst = some d6) (h1g : o1.guard = none) (hT : N.ty t = T) (hTu : ∃ fs, P.underlying T = some (.struct fs)) (hz : zeroV P T = some z)
  (hplain : ∀ i, 2 ≤ i → ∀ o, ops0[i]? = some o → plainOp o = true) (hd5 : d5 < fn.ntmps) (hd5v : (idxIn d5 vs 0).isNone = true) (hd6 : vs[q]? = some d6)
  (hnd : vs.Nodup) (hlt : ∀ t ∈ vs, t < fn.ntmps) (hnv : vs.length = nv) (hq : 2 ≤ q) (hv0 : vs[0]? = some 0) (hv1 : vs[1]? = some 1)
  (hc0 : compR E fn.ntmps vs ops0 false = some pos0) (hnr : (compC E fn.ntmps vs c2).NR = true)
  (hrun : ∀ p caps h h', g (p :: caps) h = some h' → caps.length = 2 ∧ ∃ tup : PV, (p = .nilIface ∧ tup = .tuple [z, .bool false] ∨ ∃ v, p = .iface t v ∧ tup = .tuple [v, .bool true]) ∧
   ∃ n st1 x st2, execL (callWith (exec L0 0) L0) pos0 (List.range' 2 (ops0.size - 2)) { vars := (caps.map dem ++ List.replicate (nv - 2) PV.dead).set q tup, locs := List.replicate pos0.length .dead, gen := 0, heap := h } = some st1 ∧ exec L0 n (compC E fn.ntmps vs c2) (closed st1) = some (x, st2) ∧ (x = .normal ∨ x = .ret) ∧ st2.heap = h') :
  DfrOK N P k g := by
 intro p caps h h' hg w G vals hbt hsz hvr u hu
 obtain ⟨hcl, tup, htup, n, st1, x, st2, hex0, hex2, hx, hheap⟩ := hrun p caps h h' hg
 refine callsDIn_of_wpSIn (F := W none) hf hb (W_fn _) ?_
 intro c₀ cs hmode
 refine wpSIn_seq (wpSIn_region ?_)
 have hsize : 2 ≤ ops0.size := by have := (Array.getElem?_eq_some_iff.1 h1).1; omega
 have hrange : List.range ops0.size = 0 :: 1 :: List.range' 2 (ops0.size - 2) := by
  obtain ⟨m, hm⟩ : ∃ m, ops0.size = m + 2 := ⟨ops0.size - 2, by omega⟩
  rw [hm, List.range_eq_range', List.range'_succ, List.range'_succ]
  rfl
 rw [hrange]
 obtain ⟨rv, u', cs', hrec, hset, hmod, hrvr⟩ : ∃ rv u', ∃ cs' : List Frame, (match recoverD (c₀ :: cs) with | some (v, cs') => (v, cs') | none => (.nilIface, c₀ :: cs)) = (rv, cs') ∧ settle u' = .returning ∧ cs' = { c₀ with mode := u' } :: cs ∧ VR N w G.fix G.heap rv p := by
  rcases hu with ⟨rfl, rfl⟩ | ⟨v, rfl, hv⟩
  ·refine ⟨.nilIface, .returning, c₀ :: cs, ?_, rfl, by rw [← hmode], .nilIface⟩
   simp [recoverD, hmode]
  ·refine ⟨v, .panicking [{ v, recovered := true }], _, ?_, rfl, rfl, hv⟩
   simp [recoverD, hmode]
 let a0 : Act := { tmps := vals ++ Array.replicate (fn.ntmps - vals.size) undef, defers := [] }
 have step0 : ∀ {Q : Exit → Act → List Frame → World → Prop} {rest : List Nat}, wpOpsSIn (W none) 0 P ops0 Q rest (a0.put (some d5) rv) cs' w → wpOpsSIn (W none) 0 P ops0 Q (0 :: rest) a0 (c₀ :: cs) w := by
  intro Q rest hw
  obtain ⟨ts, h0o⟩ := h0o
  simp only [wpOpsSIn, h0]
  refine ⟨fun _ _ => W_fn _, ?_⟩
  have hrun0 : (execOp a0.eval o0).run P w = .ok .recover w := by
   simp [execOp, h0o, resolve, invoke, builtin]
  simp only [Region.wanted, h0g, if_true, hrun0, h0d]
  cases hr : recoverD (c₀ :: cs) with
  | none => rw [hr] at hrec; simp only [Prod.mk.injEq] at hrec; obtain ⟨rfl, rfl⟩ := hrec; exact hw
  | some y => obtain ⟨v, cs2⟩ := y; rw [hr] at hrec; simp only [Prod.mk.injEq] at hrec; obtain ⟨rfl, rfl⟩ := hrec; exact hw
 refine step0 ?_
 have hsz0 : a0.tmps.size ≥ fn.ntmps := by
  simp only [a0, Array.size_append, Array.size_replicate]; omega
 have hev5 : (a0.put (some d5) rv).eval (.tmp d5) = rv := by
  have : d5 < a0.tmps.size := Nat.lt_of_lt_of_le hd5 hsz0
  simp [Act.eval, Act.put, Array.getD_eq_getD_getElem?, Array.getElem?_setIfInBounds, this]
 obtain ⟨tv, htv, htvr⟩ : ∃ tv, (Instr.typeAssert rv tA T true).run P w = .ok tv w ∧ VR N w G.fix G.heap tv tup := by
  obtain ⟨fs, hTu⟩ := hTu
  rcases htup with ⟨rfl, rfl⟩ | ⟨v, rfl, rfl⟩
  ·cases hrvr
   obtain ⟨zv, z1, z2, _⟩ := zeroV_sound (P := P) (N := N) (w := w) (fix := G.fix) (hp := G.heap) hz
   refine ⟨.tuple #[zv, .bool false], by simp [Instr.typeAssert, Sem.run_bind, run_underlying hTu, Result.andThen_ok, z1], .tuple _ _ rfl ?_⟩
   intro i c p hc hp
   match i, hc, hp with
   | 0, hc, hp => simp at hc hp; subst hc hp; exact z2
   | 1, hc, hp => simp at hc hp; subst hc hp; exact .bool _
  ·cases hrvr with
   | iface _ v' _ hv =>
     refine ⟨.tuple #[v', .bool true], by simp [Instr.typeAssert, Sem.run_bind, run_underlying hTu, Result.andThen_ok, hT], .tuple _ _ rfl ?_⟩
     intro i c p hc hp
     match i, hc, hp with
     | 0, hc, hp => simp at hc hp; subst hc hp; exact hv
     | 1, hc, hp => simp at hc hp; subst hc hp; exact .bool _
 let a2 : Act := (a0.put (some d5) rv).put (some d6) tv
 have step1 : ∀ {Q : Exit → Act → List Frame → World → Prop} {rest : List Nat}, wpOpsSIn (W none) 0 P ops0 Q rest a2 cs' w → wpOpsSIn (W none) 0 P ops0 Q (1 :: rest) (a0.put (some d5) rv) cs' w := by
  intro Q rest hw
  simp only [wpOpsSIn, h1]
  refine ⟨fun _ _ => W_fn _, ?_⟩
  have hrun1 : (execOp (a0.put (some d5) rv).eval o1).run P w = .ok (.value tv) w := by
   simp only [execOp, h1o, hev5, Sem.run_bind, htv, Result.andThen_ok, Sem.run_pure]
  simp only [Region.wanted, h1g, if_true, hrun1, h1d]
  exact hw
 refine step1 ?_
 have hcond : onceIn vs ops0.toList = true ∧ dstsOk fn.ntmps ops0.toList = true ∧ cOpers E vs ops0.toList ops0.toList = some pos0 := by
  unfold compR at hc0
  split at hc0
  ·rename_i hc
   simp only [Bool.and_eq_true] at hc
   simp only [Option.bind_eq_some_iff] at hc0
   obtain ⟨pos', h1, h2⟩ := hc0
   simp only [Bool.false_and, Bool.false_eq_true, if_false] at h2
   split at h2
   ·cases h2
   simp only [Option.some.injEq] at h2
   subst h2
   exact ⟨hc.1.1, hc.1.2, h1⟩
  ·simp at hc0
 obtain ⟨honce, hdst, hcops⟩ := hcond
 have nm := names_ok hnd honce
 let G0 : GS := { G with df := [] }
 have hfi : FI N w G0 { vars := (caps.map dem ++ List.replicate (nv - 2) PV.dead).set q tup, locs := List.replicate pos0.length .dead, gen := 0, heap := h } a2 vs (lmap vs ops0.toList) := by
  have hsz2 : a2.tmps.size = a0.tmps.size := by simp [a2, Act.put]
  refine ⟨?_, ?_, ?_, ?_, ?_, rfl, (by intro g b h; have h : G.box g = some b := h; rw [hbt.only.box] at h; simp at h), hbt.owlt, hbt.fixlt, hbt.heap, hbt.hdom⟩
  ·have : 2 < vs.length := Nat.lt_of_le_of_lt hq (List.getElem?_eq_some_iff.1 hd6).1
   simp [hcl]; omega
  ·intro i t' u1 hi1 hi2
   rw [List.getElem?_set] at hi2
   have hne5 : t' ≠ d5 := by
    rintro rfl
    have := idxIn_of hi1 0
    simp at hd5v
    rw [hd5v] at this
    simp at this
   by_cases hiq : q = i
   ·subst hiq
    rw [hd6] at hi1
    simp only [Option.some.injEq] at hi1
    subst hi1
    rw [if_pos rfl] at hi2
    split at hi2
    ·simp only [Option.some.injEq] at hi2
     subst hi2
     have hev : a2.eval (.tmp d6) = tv := by
      have : d6 < a0.tmps.size := Nat.lt_of_lt_of_le (hlt _ (List.mem_of_getElem? hd6)) hsz0
      simp [a2, Act.eval, Act.put, Array.getD_eq_getD_getElem?, Array.getElem?_setIfInBounds, this]
     rw [hev]
     refine SR.of_pure htvr ?_
     rcases htup with ⟨_, rfl⟩ | ⟨_, _, rfl⟩ <;> rfl
    ·simp at hi2
   ·rw [if_neg hiq] at hi2
    have hne6 : t' ≠ d6 := by
     rintro rfl
     have hq' := (List.getElem?_eq_some_iff.1 hd6)
     have hi' := (List.getElem?_eq_some_iff.1 hi1)
     obtain ⟨p1, p2⟩ := hq'
     obtain ⟨p3, p4⟩ := hi'
     exact hiq ((List.getElem_inj hnd).1 (p2.trans p4.symm))
    have hev : a2.eval (.tmp t') = a0.eval (.tmp t') := by
     simp only [a2, Act.eval, Act.put, Array.getD_eq_getD_getElem?, Array.getElem?_setIfInBounds]
     rw [if_neg (Ne.symm hne6), if_neg (Ne.symm hne5)]
    rw [hev]
    by_cases hi : i < 2
    ·have hti : t' = i := by
      match i, hi with
      | 0, _ => rw [hv0] at hi1; simpa using hi1.symm
      | 1, _ => rw [hv1] at hi1; simpa using hi1.symm
     subst hti
     have hia : t' < caps.length := by rw [hcl]; exact hi
     rw [List.getElem?_append_left (by simpa using hia)] at hi2
     simp only [List.getElem?_map, List.getElem?_eq_getElem hia, Option.map_some, Option.some.injEq] at hi2
     subst hi2
     have hiv : t' < vals.size := by rw [hsz]; exact hia
     have hev : a0.eval (.tmp t') = vals[t'] := by
      simp only [a0, Act.eval, Array.getD_eq_getD_getElem?]
      rw [Array.getElem?_append_left hiv]
      simp [hiv]
     rw [hev]
     have hv := hvr t' vals[t'] caps[t'] (by simp [hiv]) (List.getElem?_eq_getElem hia)
     exact SR.of_pure hv.dem hv.cp_dem
    ·rw [List.getElem?_append_right (by rw [List.length_map, hcl]; omega)] at hi2
     rw [List.getElem?_replicate] at hi2
     split at hi2
     ·simp at hi2; subst hi2; trivial
     ·simp at hi2
  ·intro j t' u1 _ hu1
   simp only [List.getElem?_replicate] at hu1
   split at hu1
   ·simp at hu1; subst hu1; trivial
   ·simp at hu1
  ·intro i t' hi
   rw [hsz2]
   exact Nat.lt_of_lt_of_le (hlt _ (List.mem_of_getElem? hi)) hsz0
  ·intro j t' hj
   rw [hsz2]
   exact Nat.lt_of_lt_of_le (lmap_lt hdst j t' hj) hsz0
 refine wpOpsSIn_of ?_ ?_ ?_
 ·intro i hi o ho
  refine hplain i ?_ o ho
  rw [List.mem_range'_1] at hi
  exact hi.1
 ·rintro ⟨a, w, h⟩
  simp only [Exit.thenS, bodyPostS] at h
  obtain ⟨u2, ⟨v, hv⟩, _⟩ := h
  cases hv
 ·refine opsL_sound (L := L0) fns0 hE hP nm (runs0 0).call (by intro k args h r hc; simp [callWith, L0] at hc) hcops hex0 hfi ?_
  intro a' w' G' hf' he hs
  simp only [Exit.thenS]
  refine wpSIn_of_wpN fun fid => ?_
  have hsz2 : a2.tmps.size = a0.tmps.size := by simp [a2, Act.put]
  have hb' := FI.finish (nt := fn.ntmps) hf' (by rw [hs, hsz2]; exact hsz0)
  refine code_sound (L := L0) (rd' := none) fns0 hE hP hmix hnd n (fun m _ => runs0 m) compC_cmp hex2 hb' ?_ (.inl rfl) ?_ ?_
  ·intro ps kb vars hl
   rw [hlps] at hl
   simp at hl
  ·rintro ⟨a, w, h⟩
   simp only [bodyPostS] at h
   obtain ⟨u2, ⟨v, hv⟩, _⟩ := h
   cases hv
  ·intro a3 w3 G3 e he3 hb3 hext3 hdf3
   have hall : ExtD w G w3 G3 := ExtD.trans (ExtD.of he : ExtD w G0 w' G') hext3
   have hdf0 : G'.df = [] := he.df
   have hdf : G3.df = [] := by
    have key : (∃ ms, G3.df = ms ++ G'.df ∧ Marks w' w3 G3 ms ∧ ((compC E fn.ntmps vs c2).NR = true → ms = [])) → G3.df = [] := by
     rintro ⟨ms, q1, _, q3⟩
     rw [q1, q3 hnr, hdf0]; rfl
    rcases hx with rfl | rfl <;> exact key hdf3
   have hfin : bodyPostS P fn c₀ cs (fun e u' w' => (∃ v, e = .returned v) ∧ settle u' = .returning ∧ ∃ G', Ext w G w' G' ∧ Between N w' G' h') .normal a3 cs' w3 := by
    refine ⟨by rw [hb3.fi.defers, hdf], u', hmod, .tuple #[], ?_, ⟨_, rfl⟩, hset, ?_⟩
    ·unfold results
     rw [hres]
     simp
    ·obtain ⟨l1, l2⟩ := leave_shut hall hb3 (DefW.refl _) (fun _ _ => rfl) st2.vars []
     rw [← hheap]
     exact ⟨_, l1, l2⟩
   rcases hx with rfl | rfl <;> (simp only [ExitR] at he3; subst he3; exact hfin)
def recPos : List PO := [⟨.l, stuckOp, none⟩, ⟨.v 4, stuckOp, none⟩, ⟨.l, .mov (.v 4), none⟩, ⟨.l, .extract 0 (.l 2), none⟩, ⟨.l, .extract 1 (.l 2), none⟩, ⟨.v 2, .newloc [.int .i64 0, .int .i64 0, .int .i64 0], none⟩, ⟨.n, .store 3 true (.v 2) (.l 3), none⟩, ⟨.v 3, .take (.l 4), none⟩]
def recC : PC := .branch [⟨.l, .mov (.v 3), none⟩] (.l 0) (.region [⟨.l, .faddr 0 (.v 2), none⟩, ⟨.l, .load 2 true (.l 0) false, none⟩, ⟨.l, .faddr 2 (.v 2), none⟩, ⟨.l, .load 1 false (.l 2) false, none⟩, ⟨.n, .h (.storer 2 true (.v 0) (.l 1)), none⟩, ⟨.n, .h (.storer 1 false (.v 1) (.l 3)), none⟩]) .skip
def recZ : PV := .agg [.int .i64 0, .int .i64 0, .int .i64 0]
theorem rec_run {t : Nat} {p : PV} {caps : List PV} {h h' : List PObj} (hg : pRec t (p :: caps) h = some h') : caps.length = 2 ∧ ∃ tup : PV, (p = .nilIface ∧ tup = .tuple [recZ, .bool false] ∨ ∃ v, p = .iface t v ∧ tup = .tuple [v, .bool true]) ∧
   ∃ n st1 x st2, execL (callWith (exec L0 0) L0) recPos (List.range' 2 (8 - 2)) { vars := (caps.map dem ++ List.replicate (5 - 2) PV.dead).set 4 tup, locs := List.replicate recPos.length .dead, gen := 0, heap := h } = some st1 ∧ exec L0 n recC (closed st1) = some (x, st2) ∧ (x = .normal ∨ x = .ret) ∧ st2.heap = h' := by
 have fin : ∀ {tup : PV} {st1 : St} {x : PExit} {st2 : St}, execFrom (callWith (exec L0 0) L0) 2 (recPos.drop 2) { vars := (caps.map dem ++ List.replicate (5 - 2) PV.dead).set 4 tup, locs := List.replicate recPos.length .dead, gen := 0, heap := h } = some st1 → evL L0 recC (closed st1) = some (x, st2) → (x = .normal ∨ x = .ret) → st2.heap = h' →
   ∃ n st1 x st2, execL (callWith (exec L0 0) L0) recPos (List.range' 2 (8 - 2)) { vars := (caps.map dem ++ List.replicate (5 - 2) PV.dead).set 4 tup, locs := List.replicate recPos.length .dead, gen := 0, heap := h } = some st1 ∧ exec L0 n recC (closed st1) = some (x, st2) ∧ (x = .normal ∨ x = .ret) ∧ st2.heap = h' := by
  intro tup st1 x st2 h1 h2 h3 h4
  obtain ⟨n, hn⟩ := evL_iff.1 h2
  rw [execFrom_L (all := recPos) rfl] at h1
  exact ⟨n, st1, x, st2, h1, hn, h3, h4⟩
 unfold pRec at hg
 split at hg
 ·rename_i n m heq
  simp only [List.cons.injEq] at heq
  obtain ⟨rfl, rfl⟩ := heq
  simp only [Option.some.injEq] at hg
  subst hg
  refine ⟨rfl, _, .inl ⟨rfl, rfl⟩, fin (st1 := ⟨[.ptr n 0, .ptr m 0, .loc 0 [.int .i64 0, .int .i64 0, .int .i64 0], .bool false, .tuple [recZ, .bool false]], [.dead, .dead, .tuple [recZ, .bool false], recZ, .bool false, .dead, .dead, .dead], 1, h⟩) (st2 := ⟨[.ptr n 0, .ptr m 0, .loc 0 [.int .i64 0, .int .i64 0, .int .i64 0], .bool false, .tuple [recZ, .bool false]], [], 1, h⟩) ?_ ?_ (.inl rfl) rfl⟩
  ·simp [recPos, recZ, stuckOp, storeInto]
  ·simp [recC]
 ·rename_i t' k1 a k2 b k3 c n m heq
  simp only [List.cons.injEq] at heq
  obtain ⟨rfl, rfl⟩ := heq
  split at hg
  ·rename_i hc
   obtain ⟨rfl, hnm⟩ := hc
   split at hg
   ·rename_i x1 x2 x3 hn hm
    simp only [Option.some.injEq] at hg
    subst hg
    refine ⟨rfl, _, .inr ⟨_, rfl, rfl⟩, fin (st1 := ⟨[.ptr n 0, .ptr m 0, .loc 0 [.int k1 a, .int k2 b, .int k3 c], .bool true, .tuple [.agg [.int k1 a, .int k2 b, .int k3 c], .bool true]], [.dead, .dead, .tuple [.agg [.int k1 a, .int k2 b, .int k3 c], .bool true], .agg [.int k1 a, .int k2 b, .int k3 c], .bool true, .dead, .dead, .dead], 1, h⟩) (st2 := ⟨[.ptr n 0, .ptr m 0, .loc 0 [.int k1 a, .int k2 b, .int k3 c], .bool true, .tuple [.agg [.int k1 a, .int k2 b, .int k3 c], .bool true]], [], 1, (h.set n (.cells [.int k1 a, .int k2 b])).set m (.cells [.int k3 c])⟩) ?_ ?_ (.inl rfl) rfl⟩
    ·simp [recPos, recZ, stuckOp, storeInto]
    ·have hm' : (h.set n (.cells [.int k1 a, .int k2 b]))[m]? = some (.cells [x3]) := by rw [List.getElem?_set_ne hnm]; exact hm
     simp [recC, storeInto, loadFrom, hn, hm', PV.flat, isList]
   ·simp at hg
  ·simp at hg
 ·simp at hg
/-- The closure, as it stands in a program. -/
theorem rec_ok (hE : EnvOk E N) (hP : E.P = P) (hmix : P.follows .mixedOrders = true) (hlps : E.lps = []) {k : Nat} {fn : Func} {id0 : Nat} {ops0 : Array Oper} {c2 : Code} {tA T t : Nat} {o0 o1 : Oper} (hf : P.funcs[N.fn k]? = some fn) (hb : fn.body = some (.seq (.region id0 ops0 false) c2)) (hres : fn.results = #[])
  (h0 : ops0[0]? = some o0) (h0o : ∃ ts, o0.op = .call { callee := .builtin .recover, args := #[], argTypes := ts }) (h0d : o0.dst = some 5) (h0g : o0.guard = none)
  (h1 : ops0[1]? = some o1) (h1o : o1.op = .typeAssert (.tmp 5) tA T true) (h1d : o1.dst = some 6) (h1g : o1.guard = none) (hT : N.ty t = T) (hTu : (match P.underlying T with | some (.struct _) => true | _ => false) = true) (hz : zeroV P T = some recZ)
  (hsz : ops0.size = 8) (hplain : (ops0.toList.drop 2).all plainOp = true) (hnt : fn.ntmps = 14) (hc0 : compR E 14 [0, 1, 2, 3, 6] ops0 false = some recPos) (hc2 : compC E 14 [0, 1, 2, 3, 6] c2 = recC) : DfrOK N P k (pRec t) := by
 refine dfr_sound hE hP hmix hlps (vs := [0, 1, 2, 3, 6]) (d5 := 5) (d6 := 6) (q := 4) (nv := 5) hf hb hres h0 h0o h0d h0g h1 h1o h1d h1g hT (by split at hTu <;> first | exact ⟨_, by assumption⟩ | simp at hTu) hz ?_ (by rw [hnt]; decide) rfl rfl (by decide) (by rw [hnt]; decide) rfl (by omega) rfl rfl (by rw [hnt]; exact hc0) (by rw [hnt, hc2]; rfl) ?_
 ·intro i hi o ho
  have := List.all_eq_true.1 hplain o
  refine this (List.mem_of_getElem? (i := i - 2) ?_)
  rw [List.getElem?_drop, show 2 + (i - 2) = i by omega]
  simpa using ho
 ·intro p caps h h' hg
  have := rec_run hg
  rw [hsz, hnt, hc2]
  exact this
end
end PI
