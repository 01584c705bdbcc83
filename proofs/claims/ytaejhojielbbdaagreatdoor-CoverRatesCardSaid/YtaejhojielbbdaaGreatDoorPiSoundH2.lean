/-
  The pure interpreter is right: maps, closures.
-/
import Derived.Test.YtaejhojielbbdaaGreatDoorPiSoundH
set_option linter.unusedSimpArgs false
set_option linter.unusedVariables false
set_option linter.unusedSectionVars false
namespace PI
open Go Go.MapKept
section
variable {E : Env} {N : Nm} {w : World} {G : GS} {st : St} {a : Act} {vs : List Tmp} {ops : List Oper} {P : Program}
variable {o : Oper} {j : Nat} {next : Act → World → Prop} {Q : Exit → Act → World → Prop} {u : PV} {st1 : St}
/-! ### Keys -/
theorem bytesEq (s t : ByteArray) : (s == t) = (s.data.toList == t.data.toList) := by
 rw [Bool.eq_iff_iff, MapKept.bytes_beq, beq_iff_eq]
 constructor
 ·rintro rfl; rfl
 ·intro h
  obtain ⟨⟨s⟩⟩ := s
  obtain ⟨⟨t⟩⟩ := t
  simpa using h
theorem same_sound {kt : TypeId} {d : TypeDesc} {kk : EK} {fix : Nat → Nat → Prop} {hp : Nat → Option Nat} {vx vy : Value} {x y : PV} {b : Bool} (hd : P.underlying kt = some d) (hk : ekT P kt = some kk) (hx : VR N w fix hp vx x) (hy : VR N w fix hp vy y) (h : peq1 kk x y = some b) :
  Instr.sameNow d vx vy = some b := by
 unfold ekT at hk
 rw [hd] at hk
 unfold peq1 at h
 split at h
 ·cases hx; cases hy
  simp only [Option.some.injEq] at h; subst h
  split at hk <;> simp at hk
  rename_i hdd
  simp at hdd; subst hdd
  rfl
 ·cases hx; cases hy
  split at h
  ·subst_vars
   simp only [Option.some.injEq] at h; subst h
   split at hk <;> simp at hk
   rename_i hdd
   simp at hdd; subst hdd
   simp [Instr.sameNow]
  ·simp at h
 ·cases hx; cases hy
  simp only [Option.some.injEq] at h; subst h
  split at hk <;> simp at hk
  rename_i hdd
  simp at hdd; subst hdd
  simp only [Instr.sameNow, bytesEq]
 ·simp at h
theorem key_form {kk : EK} {x y : PV} {b : Bool} (h : peq1 kk x y = some b) : (∃ c, x = .bool c) ∨ (∃ k n, x = .int k n) ∨ ∃ s, x = .str s := by
 unfold peq1 at h
 split at h
 ·exact .inl ⟨_, rfl⟩
 ·exact .inr (.inl ⟨_, _, rfl⟩)
 ·exact .inr (.inr ⟨_, rfl⟩)
 ·simp at h
theorem same_bits {fix : Nat → Nat → Prop} {hp : Nat → Option Nat} {kk : EK} {vx vy : Value} {x y : PV} (hx : VR N w fix hp vx x) (hy : VR N w fix hp vy y) (h : peq1 kk x y = some true) (n : Nat) : Instr.sameBits n vy vx = true := by
 unfold peq1 at h
 split at h
 ·cases hx; cases hy
  simp at h; subst h; simp [Instr.sameBits]
 ·cases hx; cases hy
  split at h
  ·subst_vars
   simp at h; subst h; simp [Instr.sameBits]
  ·simp at h
 ·cases hx with
  | str s =>
    cases hy with
    | str t =>
      have e : (s == t) = true := by rw [bytesEq]; simpa using h
      have e' : s = t := (MapKept.bytes_beq s t).1 e
      subst e'
      simpa [Instr.sameBits] using e
 ·simp at h
/-- A key, found. -/
theorem find_sound {kt : TypeId} {d : TypeDesc} {kk : EK} {fix : Nat → Nat → Prop} {hp : Nat → Option Nat} {kv : Value} {kp : PV} (hd : P.underlying kt = some d) (hk : ekT P kt = some kk) (hkv : VR N w fix hp kv kp) :
  ∀ {mes : List MapEntry} {es : List (PV × PV)} {i : Nat} {r : Option (Nat × PV)}, mes.length = es.length → (∀ (i : Nat) (e : MapEntry) (p : PV × PV), mes[i]? = some e → es[i]? = some p → VR N w fix hp e.key p.1) →
  mfind false [kk] kp es i = some r →
  (r = none ∧ Instr.findNow d kv mes i = some none) ∨ (∃ n v e p1, r = some (i + n, v) ∧ Instr.findNow d kv mes i = some (some (i + n, e.val)) ∧ mes[n]? = some e ∧ es[n]? = some (p1, v) ∧ peq1 kk kp p1 = some true)
 | [], [], i, r, _, _, h => by
   simp [mfind] at h; subst h
   exact .inl ⟨rfl, rfl⟩
 | e :: mes, p :: es, i, r, hl, hv, h => by
   simp only [mfind, peq, Bool.false_eq_true, if_false, Option.bind_eq_some_iff] at h
   obtain ⟨b, hb, h⟩ := h
   have hs := same_sound hd hk hkv (hv 0 e p rfl rfl) hb
   cases b with
   | true =>
     simp at h; subst h
     exact .inr ⟨0, p.2, e, p.1, rfl, by simp [Instr.findNow, hs], rfl, rfl, hb⟩
   | false =>
     simp at h
     rcases find_sound hd hk hkv (mes := mes) (es := es) (by simpa using hl) (fun i e p h1 h2 => hv (i + 1) e p (by simpa using h1) (by simpa using h2)) h with ⟨h1, h2⟩ | ⟨n, v, e', p1, h1, h2, h3, h4, h5⟩
     ·exact .inl ⟨h1, by simp [Instr.findNow, hs, h2]⟩
     ·exact .inr ⟨n + 1, v, e', p1, by rw [h1]; simp; omega, by simp [Instr.findNow, hs, h2]; omega, by simpa using h3, by simpa using h4, h5⟩
 | [], _ :: _, _, _, hl, _, _ => by simp at hl
 | _ :: _, [], _, _, hl, _, _ => by simp at hl
theorem run_checkKeyT {kt : TypeId} {kk : EK} (hk : ekT P kt = some kk) (b : Bool) (v : Value) : (Instr.checkKey b 10000 kt v).run P w = .ok () w := by
 unfold ekT at hk
 unfold Instr.checkKey
 split at hk
 ·rename_i hu; simp only [Sem.run_bind, run_underlying hu, Result.andThen_ok]; cases v <;> rfl
 ·rename_i hu; simp only [Sem.run_bind, run_underlying hu, Result.andThen_ok]; cases v <;> rfl
 ·rename_i hu; simp only [Sem.run_bind, run_underlying hu, Result.andThen_ok]; cases v <;> rfl
 ·simp at hk
/-- How a key's type sees keys. -/
theorem keyT_cases {kt : TypeId} {kk : Bool × List EK} (h : keyT P kt = some kk) : (∃ k, ekT P kt = some k ∧ kk = (false, [k])) ∨
  ∃ fs, P.underlying kt = some (.struct fs) ∧ eqFields P fs.toList 0 = some kk.2 ∧ kk.1 = true ∧ P.stoodInHeld kt = false := by
 unfold keyT at h
 split at h
 ·rename_i k hk
  simp only [Option.some.injEq] at h
  exact .inl ⟨k, hk, h.symm⟩
 ·split at h
  ·rename_i ks hks
   simp only [Option.some.injEq] at h
   subst h
   unfold eqT at hks
   split at hks
   ·simp at hks
   ·simp at hks
   ·simp at hks
   ·rename_i fs hu
    split at hks
    ·rename_i ks' hks'
     split at hks
     ·rename_i hcond
      simp only [Option.some.injEq, Prod.mk.injEq, true_and] at hks
      subst hks
      simp only [Bool.and_eq_true, Bool.not_eq_true'] at hcond
      exact .inr ⟨fs, hu, hks', rfl, hcond.1⟩
     ·simp at hks
    ·simp at hks
   ·simp at hks
  ·simp at h
theorem eqFields_len : ∀ {fs : List Field} {off : Nat} {ks : List EK}, eqFields P fs off = some ks → ks.length = fs.length ∧ ∀ f ∈ fs, ∃ i, off ≤ i ∧ i < off + fs.length ∧ f.offset = i ∧ f.name ≠ "_" ∧ sizeT P f.type = some 1 ∧ isAggT P f.type = false ∧ ∃ k, ekT P f.type = some k
 | [], off, ks, h => by simp [eqFields] at h; subst h; simp
 | f :: fs, off, ks, h => by
   simp only [eqFields] at h
   split at h
   ·rename_i hc
    simp only [Option.bind_eq_some_iff, Option.map_eq_some_iff] at h
    obtain ⟨k, hk, ks', hks, rfl⟩ := h
    obtain ⟨h1, h2⟩ := eqFields_len hks
    refine ⟨by simp [h1], ?_⟩
    intro g hg
    rcases List.mem_cons.1 hg with rfl | hg
    ·exact ⟨off, Nat.le_refl _, by simp, hc.1, hc.2.1, hc.2.2.1, hc.2.2.2, k, hk⟩
    ·obtain ⟨i, a1, a2, a3⟩ := h2 g hg
     exact ⟨i, by omega, by simp; omega, a3⟩
   ·simp at h
theorem peqs_len : ∀ {ks : List EK} {xs ys : List PV} {b : Bool}, peqs ks xs ys = some b → xs.length = ks.length ∧ ys.length = ks.length
 | [], xs, ys, b, h => by cases xs <;> cases ys <;> simp_all [peqs]
 | k :: ks, xs, ys, b, h => by
   cases xs with
   | nil => simp [peqs] at h
   | cons x xs =>
     cases ys with
     | nil => simp [peqs] at h
     | cons y ys =>
       simp only [peqs, Option.bind_eq_some_iff, Option.map_eq_some_iff] at h
       obtain ⟨_, _, _, h2, _⟩ := h
       obtain ⟨a1, a2⟩ := peqs_len h2
       simp [a1, a2]
/-- Whoever is looked for among structs is a struct. -/
theorem mfind_agg {ks : List EK} {kp : PV} {es : List (PV × PV)} {i : Nat} {r} (h : mfind true ks kp es i = some r) : ∃ cs, kp = .agg cs ∧ cs.length = ks.length := by
 cases es with
 | nil =>
   rw [mfind.eq_def] at h
   cases kp <;> simp only [Option.ite_none_right_eq_some, reduceCtorEq] at h <;> exact ⟨_, rfl, h.1⟩
 | cons e es =>
   simp only [mfind, Option.bind_eq_some_iff] at h
   obtain ⟨b, hb, _⟩ := h
   simp only [peq, if_true] at hb
   split at hb
   ·exact ⟨_, rfl, (peqs_len hb).1⟩
   ·simp at hb
theorem run_checkKeyK {kt : TypeId} {kk : Bool × List EK} {G : GS} {kv : Value} {kp : PV} (hk : keyT P kt = some kk) (hkv : VR N w G.fix G.heap kv kp) {es : List (PV × PV)} {i : Nat} {r} (h : mfind kk.1 kk.2 kp es i = some r) (b : Bool) : (Instr.checkKey b 10000 kt kv).run P w = .ok () w := by
 rcases keyT_cases hk with ⟨k, hk', rfl⟩ | ⟨fs, hu, hf, h1, _⟩
 ·exact run_checkKeyT hk' b kv
 ·rw [h1] at h
  obtain ⟨cs, rfl, hl⟩ := mfind_agg h
  obtain ⟨vs, rfl, hc⟩ := CellsR.of_agg hkv
  obtain ⟨e1, e2⟩ := eqFields_len hf
  have hsz : vs.size = fs.size := by have := hc.1; simp at this; simp at e1; omega
  have key : ∀ (l : List Field), (∀ f ∈ l, f ∈ fs.toList) → ((do for f in l do if f.name ≠ "_" then Instr.checkKey b 9999 f.type (← part f.type vs f.offset)) : Sem Unit).run P w = .ok () w := by
   intro l
   induction l with
   | nil => intro _; rfl
   | cons f l ih =>
     intro hl
     obtain ⟨i, a1, a2, a3, a4, a5, a6, k, a7⟩ := e2 f (hl f (by simp))
     have hlt : i < vs.size := by simp at a2; omega
     have hpart : (part f.type vs f.offset).run P w = .ok vs[i] w := by
      simp [part, run_isAggT a5, a6, a3, hlt]
     have hck : (Instr.checkKey b 9999 f.type vs[i]).run P w = .ok () w := by
      unfold ekT at a7
      unfold Instr.checkKey
      split at a7
      ·rename_i hu; simp only [Sem.run_bind, run_underlying hu, Result.andThen_ok]; cases vs[i] <;> rfl
      ·rename_i hu; simp only [Sem.run_bind, run_underlying hu, Result.andThen_ok]; cases vs[i] <;> rfl
      ·rename_i hu; simp only [Sem.run_bind, run_underlying hu, Result.andThen_ok]; cases vs[i] <;> rfl
      ·simp at a7
     have ih' := ih (fun g hg => hl g (by simp [hg]))
     rw [List.forIn_cons]
     simp only [Sem.run_bind, ne_eq, a4, not_false_eq_true, if_true, hpart, Result.andThen_ok, hck, Sem.run_pure] at ih' ⊢
     exact ih'
  unfold Instr.checkKey
  simp only [Sem.run_bind, run_underlying hu, Result.andThen_ok, ← Array.forIn_toList]
  have := key fs.toList (fun _ h => h)
  rw [Sem.run_bind] at this
  exact this
theorem keyT_under {kt : TypeId} {kk : Bool × List EK} (hk : keyT P kt = some kk) : ∃ d, P.underlying kt = some d := by
 rcases keyT_cases hk with ⟨k, hk', rfl⟩ | ⟨fs, hu, _⟩
 ·unfold ekT at hk'
  split at hk' <;> first | exact ⟨_, by assumption⟩ | simp at hk'
 ·exact ⟨_, hu⟩
theorem same_bitsS {ks : List EK} : ∀ {xs ys : List PV} {cs ds : List Value}, peqs ks xs ys = some true → cs.length = xs.length → ds.length = ys.length → ∀ {fix : Nat → Nat → Prop} {hp : Nat → Option Nat}, (∀ (i : Nat) (v : Value) (p : PV), cs[i]? = some v → xs[i]? = some p → VR N w fix hp v p) →
  (∀ (i : Nat) (v : Value) (p : PV), ds[i]? = some v → ys[i]? = some p → VR N w fix hp v p) → ∀ n, ((ds.zip cs).all fun (x, y) => Instr.sameBits n x y) = true := by
 induction ks with
 | nil =>
   intro xs ys cs ds h h1 h2 fix hp hx hy n
   obtain ⟨a1, a2⟩ := peqs_len h
   simp at a1 a2
   subst a1 a2
   simp at h1 h2
   subst h1 h2
   rfl
 | cons k ks ih =>
   intro xs ys cs ds h h1 h2 fix hp hx hy n
   cases xs with
   | nil => simp [peqs] at h
   | cons x xs =>
     cases ys with
     | nil => simp [peqs] at h
     | cons y ys =>
       simp only [peqs, Option.bind_eq_some_iff, Option.map_eq_some_iff] at h
       obtain ⟨b1, hb1, b2, hb2, hb⟩ := h
       simp only [Bool.and_eq_true] at hb
       obtain ⟨rfl, rfl⟩ := hb
       cases cs with
       | nil => simp at h1
       | cons c cs =>
         cases ds with
         | nil => simp at h2
         | cons d ds =>
           simp only [List.zip_cons_cons, List.all_cons, Bool.and_eq_true]
           exact ⟨same_bits (hx 0 c x rfl rfl) (hy 0 d y rfl rfl) hb1 n, ih hb2 (by simpa using h1) (by simpa using h2) (fun i v p a b => hx (i + 1) v p (by simpa using a) (by simpa using b)) (fun i v p a b => hy (i + 1) v p (by simpa using a) (by simpa using b)) n⟩
theorem same_bitsK {kk : Bool × List EK} {G : GS} {vx vy : Value} {x y : PV} (hx : VR N w G.fix G.heap vx x) (hy : VR N w G.fix G.heap vy y) (h : peq kk.1 kk.2 x y = some true) (n : Nat) : Instr.sameBits (n + 1) vy vx = true := by
 unfold peq at h
 split at h
 ·split at h
  ·rename_i xs ys
   obtain ⟨cs, rfl, hc⟩ := CellsR.of_agg hx
   obtain ⟨ds, rfl, hd⟩ := CellsR.of_agg hy
   obtain ⟨a1, a2⟩ := peqs_len h
   have h1 := hc.1
   have h2 := hd.1
   simp only [Instr.sameBits, Bool.and_eq_true, beq_iff_eq]
   refine ⟨by simp at h1 h2; omega, same_bitsS h (by simpa using h1) (by simpa using h2) (fun i v p a b => hc.2.2 i v p (by simpa using a) b) (fun i v p a b => hd.2.2 i v p (by simpa using a) b) n⟩
  ·simp at h
 ·split at h
  ·exact same_bits hx hy h (n + 1)
  ·simp at h
/-- A key, found. -/
theorem findK_sound {kt : TypeId} {kk : Bool × List EK} {G : GS} {kv : Value} {kp : PV} (hk : keyT P kt = some kk) (hkv : VR N w G.fix G.heap kv kp) {mes : List MapEntry} {es : List (PV × PV)} {r : Option (Nat × PV)} (hl : mes.length = es.length)
  (hv : ∀ (i : Nat) (e : MapEntry) (p : PV × PV), mes[i]? = some e → es[i]? = some p → VR N w G.fix G.heap e.key p.1) (h : mfind kk.1 kk.2 kp es 0 = some r) :
  (r = none ∧ (Instr.findKey kt kv mes).run P w = .ok none w) ∨ (∃ n v e p1, r = some (n, v) ∧ (Instr.findKey kt kv mes).run P w = .ok (some (n, e.val)) w ∧ mes[n]? = some e ∧ es[n]? = some (p1, v) ∧ peq kk.1 kk.2 kp p1 = some true) := by
 rcases keyT_cases hk with ⟨k, hk', rfl⟩ | ⟨fs, hu, hf, h1, hst⟩
 ·obtain ⟨d, hd⟩ : ∃ d, P.underlying kt = some d := by
   unfold ekT at hk'
   split at hk' <;> first | exact ⟨_, by assumption⟩ | simp at hk'
  rcases find_sound hd hk' hkv hl hv h with ⟨a1, a2⟩ | ⟨n, v, e, p1, a1, a2, a3, a4, a5⟩
  ·exact .inl ⟨a1, run_findKey hd a2⟩
  ·simp only [Nat.zero_add] at a1 a2
   exact .inr ⟨n, v, e, p1, a1, run_findKey hd a2, a3, a4, by simpa [peq] using a5⟩
 ·simp only [h1] at h ⊢
  have ask : ∀ (mes : List MapEntry) (es : List (PV × PV)) (i : Nat) (r : Option (Nat × PV)), mes.length = es.length → (∀ (i : Nat) (e : MapEntry) (p : PV × PV), mes[i]? = some e → es[i]? = some p → VR N w G.fix G.heap e.key p.1) → mfind true kk.2 kp es i = some r →
    (r = none ∧ (Instr.findAsking kt kv mes i).run P w = .ok none w) ∨ (∃ n v e p1, r = some (i + n, v) ∧ (Instr.findAsking kt kv mes i).run P w = .ok (some (i + n, e.val)) w ∧ mes[n]? = some e ∧ es[n]? = some (p1, v) ∧ peq true kk.2 kp p1 = some true) := by
   intro mes
   induction mes with
   | nil =>
     intro es i r hl hv h
     cases es with
     | cons _ _ => simp at hl
     | nil =>
       obtain ⟨cs, rfl, hlen⟩ := mfind_agg h
       rw [mfind.eq_def] at h
       simp only [hlen, if_true, Option.some.injEq] at h
       subst h
       exact .inl ⟨rfl, by simp [Instr.findAsking]⟩
   | cons e mes ih =>
     intro es i r hl hv h
     cases es with
     | nil => simp at hl
     | cons p es =>
       simp only [mfind, Option.bind_eq_some_iff] at h
       obtain ⟨b, hb, h⟩ := h
       have hb0 := hb
       simp only [peq, if_true] at hb
       split at hb
       ·rename_i ys hys _
        have hve := hv 0 e p rfl rfl
        rw [hys] at hve
        clear hys
        obtain ⟨cs, rfl, hc⟩ := CellsR.of_agg hkv
        obtain ⟨ds, hds, hd⟩ := CellsR.of_agg hve
        have hfo : P.fieldsOf kt = fs := by simp [Program.fieldsOf, hu]
        have heq := run_equalIn_struct (P := P) w 9999 kt cs ds (by rw [hfo]; exact hu) hst
        rw [hfo, peqs_sound hc hd hf (by simpa using hb)] at heq
        have heq' : (Op.equal kt (.agg cs) e.key).run P w = .ok b w := by
         rw [hds]
         simpa [Op.equal, Op.maxDepth] using heq
        cases b with
        | true =>
          simp at h; subst h
          exact .inr ⟨0, p.2, e, p.1, rfl, by simp [Instr.findAsking, heq'], rfl, rfl, hb0⟩
        | false =>
          simp at h
          rcases ih es (i + 1) r (by simpa using hl) (fun i e p a b => hv (i + 1) e p (by simpa using a) (by simpa using b)) h with ⟨a1, a2⟩ | ⟨n, v, e', p1, a1, a2, a3, a4, a5⟩
          ·exact .inl ⟨a1, by simp [Instr.findAsking, heq', a2]⟩
          ·exact .inr ⟨n + 1, v, e', p1, by rw [a1]; simp; omega, by simp [Instr.findAsking, heq', a2]; omega, by simpa using a3, by simpa using a4, a5⟩
       ·simp at hb
  have hfk : (Instr.findKey kt kv mes).run P w = (Instr.findAsking kt kv mes 0).run P w := by
   obtain ⟨cs, rfl, _⟩ := mfind_agg h
   obtain ⟨vs, rfl, _⟩ := CellsR.of_agg hkv
   unfold Instr.findKey
   simp only [Sem.run_bind, run_underlying hu, Result.andThen_ok]
   cases mes with
   | nil => simp [Instr.findNow, Instr.findAsking]
   | cons e mes =>
     have : Instr.findNow (.struct fs) (.agg vs) (e :: mes) 0 = none := by simp [Instr.findNow, Instr.sameNow]
     rw [this]
  rw [hfk]
  rcases ask mes es 0 r hl hv h with h | ⟨n, v, e, p1, a1, a2, a3⟩
  ·exact .inl h
  ·exact .inr ⟨n, v, e, p1, by simpa using a1, by simpa using a2, a3⟩
theorem ek_under {kt : TypeId} {kk : EK} (hk : ekT P kt = some kk) : ∃ d, P.underlying kt = some d := by
 unfold ekT at hk
 split at hk <;> first | exact ⟨_, by assumption⟩ | simp at hk
theorem zeroV_sound {fix : Nat → Nat → Prop} {hp : Nat → Option Nat} {t : TypeId} {z : PV} (h : zeroV P t = some z) : ∃ zv, (zeroValue t).run P w = .ok zv w ∧ VR N w fix hp zv z ∧ ((∃ es, z = .list true es ∧ zv = .slice none 0 0) ∨ cp z = some z) := by
 unfold zeroV at h
 split at h
 ·rename_i i hi
  simp only [Option.bind_eq_some_iff] at h
  obtain ⟨zv, h1, h2⟩ := h
  exact ⟨zv, by simp [zeroValue, typeInfo, hi, h1], constPV_sound h2, constPV_form h2⟩
 ·simp at h
theorem VR.cp_dem' {fix : Nat → Nat → Prop} {hp : Nat → Option Nat} {v : Value} {p : PV} (h : VR N w fix hp v p) : cp (PI.dem p) = some (PI.dem p) := by
 cases h <;> rfl
/-! ### Maps -/
theorem map_open (hf : FI N w G st a vs (lmap vs ops)) {n b : Nat} {es : List (PV × PV)} (hg : mget st (some n) = some es) (hb : G.heap n = some b) :
  G.ow b = some (.hobj n) ∧ st.heap[n]? = some (.map es) ∧ ObjR N w G n b (.map es) := by
 unfold mget at hg
 simp only at hg
 split at hg
 ·rename_i es' hn
  simp at hg; subst hg
  rcases hf.heap.1 n _ hn with e | ⟨b', h1, h2, h3⟩
  ·simp at e
  have : b' = b := by rw [hb] at h1; simpa using h1.symm
  subst this
  exact ⟨h2, hn, h3⟩
 ·simp at hg
theorem MR.read {key : Key} {v : Value} {p : PV} (h : MR N w G key v p) : VR N w G.fix G.heap v (dem p) := h.1.dem
theorem lookup_sound (hE : EnvOk E N) (nm : Names vs (lmap vs ops)) (ho : ops[j]? = some o) (hf : FI N w G st a vs (lmap vs ops)) {t kt e : TypeId} {m x : Operand} {ok : Bool} {kk : Bool × List EK} {z : PV} {pm px : PX} {tk : Bool}
  (hop : o.op = .lookup t m x ok) (hu : P.underlying t = some (.map kt e)) (hkk : keyT P kt = some kk) (hz : zeroV P e = some z) (hm : cx E vs ops m = some pm) (hx : cx E vs ops x = some px) {cf : CallF}
  (hs : hopv cf (.lookup ok tk kk.1 kk.2 z pm px) st = some (u, st1)) (hk : Goes N w G a st1 u vs ops j o next) : o.wp P a w next Q := by
 obtain ⟨zv, hz1, hz2, hz3⟩ := zeroV_sound (P := P) (N := N) (w := w) (fix := G.fix) (hp := G.heap) hz
 simp only [hopv] at hs
 split at hs
 ·rename_i n k hrm hrk
  have hkv := (rd_sound hE hx hf hrk).1
  have hmv := (rd_sound hE hm hf hrm).1
  simp only [Option.bind_eq_some_iff] at hs
  obtain ⟨es, hg, r, hfi, hs⟩ := hs
  have run : ∀ (mes : Array MapEntry) (r' : Option (Nat × Value)), (a.eval m = .map none ∧ mes = #[] ∨ ∃ b clock, a.eval m = .map (some b) ∧ w.heap[b]? = some (.map mes clock)) → (Instr.findKey kt (a.eval x) mes.toList).run P w = .ok r' w →
    (execOp a.eval o).run P w = .ok (.value (if ok then .tuple #[(r'.map Prod.snd).getD zv, .bool r'.isSome] else (r'.map Prod.snd).getD zv)) w := by
   intro mes r' h1 h2
   have hfk := h2
   rcases h1 with ⟨h1, rfl⟩ | ⟨b, clock, h1, h3⟩
   ·simp only [execOp, hop, Instr.lookup, Sem.run_bind, run_underlying hu, Result.andThen_ok, h1, Sem.run_pure, run_checkKeyK hkk hkv hfi, hfk]
    cases r' with
    | none => simp [hz1]
    | some q => simp
   ·simp only [execOp, hop, Instr.lookup, Sem.run_bind, run_underlying hu, Result.andThen_ok, h1, run_getObj_map h3, Sem.run_pure, run_checkKeyK hkk hkv hfi, hfk]
    cases r' with
    | none => simp [hz1]
    | some q => simp
  generalize hmval : a.eval m = mv at hmv run
  cases hmv with
  | mapn =>
    simp only [mget, Option.some.injEq] at hg
    subst hg
    have h0 := findK_sound (P := P) hkk hkv (mes := []) (es := []) rfl (by simp) hfi
    have h0' : r = none ∧ (Instr.findKey kt (a.eval x) []).run P w = .ok none w := by
     rcases h0 with h0 | ⟨n, v, e, p1, _, _, h3, _⟩
     ·exact h0
     ·simp at h3
    obtain ⟨rfl, hfn⟩ := h0'
    simp only [Option.some.injEq, Prod.mk.injEq] at hs
    obtain ⟨rfl, rfl⟩ := hs
    have hrun := run #[] none (.inl ⟨rfl, rfl⟩) hfn
    simp only [Option.map_none, Option.getD_none, Option.isSome_none] at hrun
    cases ok with
    | true =>
      refine wp_value nm ho hf hrun (SR.of_pure (.tuple _ _ rfl ?_) rfl) hk
      intro i c p hc hp
      match i, hc, hp with
      | 0, hc, hp => simp at hc hp; subst hc hp; exact hz2
      | 1, hc, hp => simp at hc hp; subst hc hp; exact .bool _
    | false =>
      refine wp_value nm ho hf hrun ?_ hk
      rcases hz3 with ⟨es, rfl, rfl⟩ | h
      ·exact ⟨hz2, trivial⟩
      ·exact SR.of_pure hz2 h
  | map n b hb =>
    obtain ⟨ho1, hgn, hobj⟩ := map_open hf hg hb
    obtain ⟨mes, clock, a1, a2, a3, a4, a5⟩ := hobj
    have hK : (Value.map (some b) = .map none ∧ mes = #[]) ∨ ∃ b' clock, Value.map (some b) = .map (some b') ∧ w.heap[b']? = some (.map mes clock) := .inr ⟨b, clock, rfl, a1⟩
    rcases findK_sound hkk hkv (mes := mes.toList) (es := es) (by simpa using a2) (fun i e p h1 h2 => (a5 i e p (by simpa using h1) h2).1) hfi with ⟨rfl, h2⟩ | ⟨i, v, en, p1, rfl, h2, h3, h4, _⟩
    ·have hrun := run mes none hK h2
     simp only [Option.some.injEq, Prod.mk.injEq] at hs
     obtain ⟨rfl, rfl⟩ := hs
     simp only [Option.map_none, Option.getD_none, Option.isSome_none] at hrun
     cases ok with
     | true =>
       refine wp_value nm ho hf hrun (SR.of_pure (.tuple _ _ rfl ?_) rfl) hk
       intro i c p hc hp
       match i, hc, hp with
       | 0, hc, hp => simp at hc hp; subst hc hp; exact hz2
       | 1, hc, hp => simp at hc hp; subst hc hp; exact .bool _
     | false =>
       refine wp_value nm ho hf hrun ?_ hk
       rcases hz3 with ⟨es, rfl, rfl⟩ | h
       ·exact ⟨hz2, trivial⟩
       ·exact SR.of_pure hz2 h
    ·have hrun := run mes _ hK h2
     have hmr := (a5 i en (p1, v) (by simpa using h3) h4).2
     simp only [Option.map_some, Option.getD_some, Option.isSome_some] at hrun
     simp only at hs
     split at hs
     ·skip
      rename_i htk
      simp only [Bool.and_eq_true, Bool.not_eq_true'] at htk
      obtain ⟨⟨_, hok⟩, hown⟩ := htk
      subst hok
      have : ∃ l, v = .list true l := by
       unfold isOwn at hown
       split at hown
       ·exact ⟨_, rfl⟩
       ·simp at hown
      obtain ⟨l, rfl⟩ := this
      simp only [Option.some.injEq, Prod.mk.injEq] at hs
      obtain ⟨rfl, rfl⟩ := hs
      obtain ⟨hvr, hroom⟩ := hmr
      obtain ⟨G', hG, hroom'⟩ := Room.give (key' := keyD (cDst vs o.dst) j) hroom
      have hgg : G'.box = G.box ∧ G'.fix = G.fix ∧ G'.heap = G.heap := by
       rcases hG with rfl | ⟨b, _, rfl⟩ <;> exact ⟨rfl, rfl, rfl⟩
      have hext : Ext w G w G' := by
       rcases hG with rfl | ⟨b, hb, rfl⟩
       ·exact Ext.refl _ _
       ·exact give_ext b _ (fun _ => by simp [hb])
      have hkeep : Keep (fun k => k = .hcell n i) w G w G' := by
       rcases hG with rfl | ⟨b, hb, rfl⟩
       ·exact ⟨fun b k h _ => ⟨h, rfl, fun _ h => h⟩, fun _ _ h => h⟩
       ·exact give_keep b _ (fun k' hk' => by rw [hb] at hk'; simpa using hk'.symm)
      have hf1 : FI N w G' (hset st n (.map (es.modify i fun e => (e.1, dem e.2)))) a vs (lmap vs ops) := by
       refine ⟨hf.len, fun i' t' u' h1 h2 => (hf.var i' t' u' h1 h2).keep hext hkeep (by simp) (by simp), fun i' t' u' h1 h2 => (hf.loc i' t' u' h1 h2).keep hext hkeep (by simp) (by simp), hf.tv, hf.tl, (hf.defers.trans hext.df.symm), by rw [hgg.1]; exact hf.gen, ?_, by rw [hgg.2.1]; exact hf.fixlt, ?_, ?_⟩
       ·intro b' k hb'
        rcases hG with rfl | ⟨b2, hb2, rfl⟩
        ·exact hf.owlt _ _ hb'
        ·simp only [GS.give] at hb'
         split at hb'
         ·subst_vars; exact hf.owlt _ _ hb2
         ·exact hf.owlt _ _ hb'
       ·refine hf.heap.keepBut hext hkeep (fun n' k hne => ⟨by simp, by simp; omega⟩) (fun _ => ?_)
        refine .inr ⟨b, hext.heap _ _ hb, (hkeep.1 _ _ ho1 (by simp)).1, mes, clock, a1, by simpa using a2, a3, a4, ?_⟩
        intro i' e' p' he' hp'
        rw [List.getElem?_modify] at hp'
        by_cases hii : i = i'
        ·subst hii
         rw [h4] at hp'
         simp at hp'; subst hp'
         have : e' = en := by rw [← Array.getElem?_toList] at he'; rw [h3] at he'; simpa using he'.symm
         subst this
         obtain ⟨b1, b2⟩ := a5 i e' (p1, .list true l) he' h4
         exact ⟨b1.ext hext, (b2.1.dem).ext hext, trivial⟩
        ·simp only [hii, if_false, Option.map_eq_map] at hp'
         have hp'' : es[i']? = some p' := by simpa using hp'
         obtain ⟨b1, b2⟩ := a5 i' e' p' he' hp''
         exact ⟨b1.ext hext, b2.keep hext hkeep (by simp; omega)⟩
       ·rw [hgg.2.2]; simp only [hset, List.length_set]; exact hf.hdom
      unfold Oper.wp
      rw [hrun]
      exact hk _ _ G' (hf1.put nm (cDst_ok ho) ⟨hvr.ext hext, hroom'⟩) hext (put_size _ _ _)
     ·simp only [Option.some.injEq, Prod.mk.injEq] at hs
      obtain ⟨rfl, rfl⟩ := hs
      have hdv : VR N w G.fix G.heap en.val (dem v) := hmr.1.dem
      cases ok with
      | true =>
        refine wp_value nm ho hf hrun (SR.of_pure (.tuple _ _ rfl ?_) rfl) hk
        intro i c p hc hp
        match i, hc, hp with
        | 0, hc, hp => simp at hc hp; subst hc hp; exact hdv
        | 1, hc, hp => simp at hc hp; subst hc hp; exact .bool _
      | false => exact wp_value nm ho hf hrun (SR.of_pure hdv hmr.1.cp_dem') hk
 ·simp at hs
/-- A map's block, written. -/
theorem map_write {b : Nat} (hb : b < w.heap.size) (hold : ∃ mes clock, w.heap[b]? = some (.map mes clock)) (hfx : G.ow b ≠ none) (mes' : Array MapEntry) (clock' : Nat) :
  let w' : World := { w with heap := w.heap.setIfInBounds b (.map mes' clock') }
  Ext w G w' G ∧ w'.heap[b]? = some (.map mes' clock') ∧ ∀ x, x ≠ b → w'.heap[x]? = w.heap[x]? := by
 intro w'
 have hsame : ∀ x, x ≠ b → w'.heap[x]? = w.heap[x]? := fun x hx => by simp [w', Array.getElem?_setIfInBounds, Ne.symm hx]
 have hnew : w'.heap[b]? = some (.map mes' clock') := by simp [w', Array.getElem?_setIfInBounds, hb]
 refine ⟨⟨rfl, rfl, rfl, by simp [w'], ?_, ?_, fun _ _ h => .inl h, fun _ h => .inr h, fun _ _ h => h, .one b (fun k _ hk => hsame k hk) (fun s hx => by obtain ⟨mes, clock, h⟩ := hold; simp [World.shape?, h] at hx) (fun s hx => by obtain ⟨mes, clock, h⟩ := hold; simp [loopOf, h] at hx), rfl⟩, hnew, hsame⟩
 ·intro x _ hx
  exact hsame x (by rintro rfl; exact hfx hx)
 ·intro x o hx
  refine ⟨hx, ?_⟩
  by_cases hxb : x = b
  ·subst hxb
   obtain ⟨mes, clock, h⟩ := hold
   simp only [World.cell?, hnew, h]
  ·simp only [World.cell?, hsame x hxb]
def strOf : Value → PV
 | .string s => .str s.data.toList
 | _ => .dead
theorem mfind_strs (s : List UInt8) : ∀ (l : List MapEntry) (i : Nat), (∀ e ∈ l, ∃ s, e.key = .string s) → ∃ r, mfind false [.s] (.str s) (l.map fun e => (strOf e.key, PV.void)) i = some r
 | [], i, _ => ⟨none, rfl⟩
 | e :: l, i, h => by
   obtain ⟨s', hs'⟩ := h e (by simp)
   obtain ⟨r, hr⟩ := mfind_strs s l (i + 1) (fun e he => h e (List.mem_cons_of_mem _ he))
   have hp : peq false [.s] (.str s) (strOf e.key) = some (s == s'.data.toList) := by rw [hs']; rfl
   simp only [List.map_cons, mfind, hp, Option.bind_some]
   split
   ·exact ⟨_, rfl⟩
   ·exact ⟨r, hr⟩
/-- A store into a map of which only the keys' kind is known. -/
theorem blob_sound (hE : EnvOk E N) (nm : Names vs (lmap vs ops)) (ho : ops[j]? = some o) (hf : FI N w G st a vs (lmap vs ops)) {t kt e : TypeId} {m x y : Operand} {kk : Bool × List EK} {px py : PX}
  (hop : o.op = .mapUpdate t m x y ∨ o.op = .insert t m x y) (hdst : o.dst = none) (hu : P.underlying t = some (.map kt e)) (hkk : keyT P kt = some kk) (hx : cx E vs ops x = some px) (hy : cx E vs ops y = some py)
  {n : Nat} {k v : PV} {st' : St} (hkv : VR N w G.fix G.heap (a.eval x) k) (hmv : VR N w G.fix G.heap (a.eval m) (.map (some n))) (htk : tk st py = some (v, st')) (hbl : isBlob st' n = true)
  (hs : blobSet kk.1 kk.2 k v st' = some (u, st1)) (hk : Goes N w G a st1 u vs ops j o next) : o.wp P a w next Q := by
 unfold blobSet at hs
 split at hs
 ·rename_i hc
  obtain ⟨hk1, hk2, hks, _⟩ := hc
  simp only [Option.some.injEq, Prod.mk.injEq] at hs
  obtain ⟨rfl, rfl⟩ := hs
  obtain ⟨s, rfl⟩ : ∃ s, k = .str s := by cases k <;> simp [isStr] at hks; exact ⟨_, rfl⟩
  have hob : st'.heap[n]? = some .sblob := by
   unfold isBlob at hbl
   split at hbl
   ·assumption
   ·cases hbl
  generalize hmval : a.eval m = mv at hmv
  cases hmv with
  | map _ b hb =>
    obtain ⟨G1, hf1, hext1, hbox1, hfix1, hheap1, hvr, htaken, _, _, _⟩ := tk_sound hE hy hf htk (.hcell n 0)
    have hb1 : G1.heap n = some b := by rw [hheap1]; exact hb
    obtain ⟨ho1, mes, clock, a1, a2⟩ : G1.ow b = some (.hobj n) ∧ ObjR N w G1 n b .sblob := by
     rcases hf1.heap.1 n _ hob with e | ⟨b', h1, h2, h3⟩
     ·simp at e
     have : b' = b := by rw [hb1] at h1; simpa using h1.symm
     subst this
     exact ⟨h2, h3⟩
    have hkv1 : VR N w G1.fix G1.heap (a.eval x) (.str s) := by rw [hfix1, hheap1]; exact hkv
    obtain ⟨xs, hxs⟩ : ∃ xs, a.eval x = .string xs := by
     generalize a.eval x = z at hkv1
     cases hkv1 with
     | str xs => exact ⟨xs, rfl⟩
    have hblt : b < w.heap.size := hf1.owlt _ _ ho1
    have hput : a.put o.dst undef = a := by simp [hdst, Act.put]
    have hdn : cDst vs o.dst = .n := by simp [hdst, cDst]
    have finish : ∀ (mes' : Array MapEntry) (clock' : Nat), (execOp a.eval o).run P w = .ok .skip { w with heap := w.heap.setIfInBounds b (.map mes' clock') } → (∀ e ∈ mes'.toList, ∃ s, e.key = .string s) → o.wp P a w next Q := by
     intro mes' clock' hrun b2
     obtain ⟨hext2, hnew, hother⟩ := map_write (G := G1) hblt ⟨mes, clock, a1⟩ (by rw [ho1]; simp) mes' clock'
     unfold Oper.wp
     rw [hrun]
     have hkeep2 : Keep (fun k => k = .hobj n) w G1 { w with heap := w.heap.setIfInBounds b (.map mes' clock') } G1 := by
      refine ⟨?_, fun _ _ h => h⟩
      intro x k hxk hnk
      refine ⟨hxk, hother x ?_, fun _ h => h⟩
      rintro rfl
      rw [ho1] at hxk
      simp at hxk
      exact hnk hxk.symm
     have hset : st'.heap.set n .sblob = st'.heap := by
      apply List.ext_getElem?
      intro i
      rw [List.getElem?_set]
      split
      ·rename_i h; subst h
       split
       ·exact hob.symm
       ·rename_i h2; rw [List.getElem?_eq_none (by omega)] at hob; cases hob
      ·rfl
     have hf2 : FI N { w with heap := w.heap.setIfInBounds b (.map mes' clock') } G1 st' a vs (lmap vs ops) := by
      refine ⟨hf1.len, fun i t' u' h1 h2 => (hf1.var i t' u' h1 h2).keep hext2 hkeep2 (by simp) (by simp), fun i t' u' h1 h2 => (hf1.loc i t' u' h1 h2).keep hext2 hkeep2 (by simp) (by simp), hf1.tv, hf1.tl, hf1.defers, hf1.gen, ?_, ?_, ?_, hf1.hdom⟩
      ·intro x k hx; simpa using hf1.owlt x k hx
      ·intro x o' hx; simpa using hf1.fixlt x o' hx
      ·rw [← hset]
       refine hf1.heap.keepBut hext2 hkeep2 (fun n' k hne => ⟨by simp; omega, by simp⟩) (fun _ => ?_)
       exact .inr ⟨b, hb1, ho1, mes', clock', hnew, b2⟩
     show next (a.put o.dst undef) _
     rw [hput]
     refine hk _ _ G1 ?_ (hext1.trans hext2) rfl
     rw [hdn]
     exact hf2
    have hop' : ∀ w', (Instr.mapUpdate t (.map (some b)) (a.eval x) (a.eval y)).run P w = .ok () w' → (execOp a.eval o).run P w = .ok .skip w' := by
     intro w' h
     rcases hop with hop | hop <;> simp [execOp, hop, hmval, h]
    obtain ⟨r, hfi⟩ := mfind_strs s mes.toList 0 a2
    have hfi : mfind kk.1 kk.2 (.str s) (mes.toList.map fun e => (strOf e.key, PV.void)) 0 = some r := by rw [hk1, hk2]; exact hfi
    have hvr0 : ∀ (i : Nat) (e : MapEntry) (p : PV × PV), mes.toList[i]? = some e → (mes.toList.map fun e => (strOf e.key, PV.void))[i]? = some p → VR N w G1.fix G1.heap e.key p.1 := by
     intro i e p h1 h2
     rw [List.getElem?_map, h1] at h2
     simp only [Option.map_some, Option.some.injEq] at h2
     subst h2
     obtain ⟨s', hs'⟩ := a2 e (List.mem_of_getElem? h1)
     simp only [hs', strOf]
     exact .str s'
    rcases findK_sound hkk hkv1 (mes := mes.toList) (es := mes.toList.map fun e => (strOf e.key, PV.void)) (by simp) hvr0 hfi with ⟨rfl, h2⟩ | ⟨i, v', en, p1, rfl, h2, h3, h4, h5⟩
    ·refine finish (mes.push { key := a.eval x, val := a.eval y, born := clock }) (clock + 1) (hop' _ ?_) ?_
     ·simp only [Instr.mapUpdate, Sem.run_bind, run_underlying hu, Result.andThen_ok, run_getObj_map a1, run_checkKeyK hkk hkv1 hfi, h2, run_setObj_map _ a1]
     ·intro e' he'
      simp only [Array.toList_push, List.mem_append, List.mem_singleton] at he'
      rcases he' with he' | rfl
      ·exact a2 e' he'
      ·exact ⟨xs, hxs⟩
    ·have hlt : i < mes.size := by have := (List.getElem?_eq_some_iff.1 h3).1; simpa using this
     have hen : mes[i]? = some en := by rw [← Array.getElem?_toList]; exact h3
     have hbits : Instr.sameBits 10000 en.key (a.eval x) = true := same_bitsK hkv1 (hvr0 i en (p1, v') h3 h4) h5 9999
     refine finish (mes.modify i fun e => { e with key := a.eval x, val := a.eval y }) clock (hop' _ ?_) ?_
     ·simp only [Instr.mapUpdate, Sem.run_bind, run_underlying hu, Result.andThen_ok, run_getObj_map a1, run_checkKeyK hkk hkv1 hfi, h2, hen, Option.map_some, Option.getD_some, Instr.keyThatStays, hbits, if_true, Sem.run_pure, run_setObj_map _ a1]
     ·intro e' he'
      obtain ⟨i', hi', rfl⟩ := List.getElem_of_mem he'
      have h6 : (mes.modify i fun e => { e with key := a.eval x, val := a.eval y })[i']? = some ((mes.modify i fun e => { e with key := a.eval x, val := a.eval y }).toList[i']) := by
       rw [← Array.getElem?_toList]; exact List.getElem?_eq_getElem hi'
      rw [Array.getElem?_modify] at h6
      split at h6
      ·simp only [Option.map_eq_some_iff] at h6
       obtain ⟨e2, h7, h8⟩ := h6
       rw [← h8]
       exact ⟨xs, hxs⟩
      ·exact a2 _ (List.mem_of_getElem? (by rw [Array.getElem?_toList]; exact h6))
 ·cases hs
theorem mset_sound (hE : EnvOk E N) (nm : Names vs (lmap vs ops)) (ho : ops[j]? = some o) (hf : FI N w G st a vs (lmap vs ops)) {t kt e : TypeId} {m x y : Operand} {kk : Bool × List EK} {pm px py : PX}
  (hop : o.op = .mapUpdate t m x y ∨ o.op = .insert t m x y) (hdst : o.dst = none) (hu : P.underlying t = some (.map kt e)) (hkk : keyT P kt = some kk) (hm : cx E vs ops m = some pm) (hx : cx E vs ops x = some px) (hy : cx E vs ops y = some py) {cf : CallF}
  (hs : hopv cf (.mset kk.1 kk.2 pm px py) st = some (u, st1)) (hk : Goes N w G a st1 u vs ops j o next) : o.wp P a w next Q := by
 simp only [hopv] at hs
 split at hs
 ·rename_i n k v st' hrm hrk htk
  have hkv := (rd_sound hE hx hf hrk).1
  have hmv := (rd_sound hE hm hf hrm).1
  split at hs
  ·rename_i hbl
   exact blob_sound hE nm ho hf hop hdst hu hkk hx hy hkv hmv htk hbl hs hk
  simp only [Option.bind_eq_some_iff, Option.map_eq_some_iff] at hs
  obtain ⟨es, hg, r, hfi, hs⟩ := hs
  generalize hmval : a.eval m = mv at hmv
  cases hmv with
  | map _ b hb =>
    let idx : Nat := match r with | some (i, _) => i | none => es.length
    obtain ⟨G1, hf1, hext1, hbox1, hfix1, hheap1, hvr, htaken, _, _, _⟩ := tk_sound hE hy hf htk (.hcell n idx)
    have hb1 : G1.heap n = some b := by rw [hheap1]; exact hb
    obtain ⟨ho1, hgn, hobj⟩ := map_open hf1 hg hb1
    obtain ⟨mes, clock, a1, a2, a3, a4, a5⟩ := hobj
    have hkv1 : VR N w G1.fix G1.heap (a.eval x) k := by rw [hfix1, hheap1]; exact hkv
    have hvr1 : VR N w G1.fix G1.heap (a.eval y) v := by rw [hfix1, hheap1]; exact hvr
    have hmr1 : MR N w G1 (.hcell n idx) (a.eval y) v := by
     refine ⟨hvr1, ?_⟩
     split
     ·exact htaken
     ·trivial
    have hblt : b < w.heap.size := hf1.owlt _ _ ho1
    have hput : a.put o.dst undef = a := by simp [hdst, Act.put]
    have hdn : cDst vs o.dst = .n := by simp [hdst, cDst]
    have finish : ∀ (mes' : Array MapEntry) (clock' : Nat) (es' : List (PV × PV)), (execOp a.eval o).run P w = .ok .skip { w with heap := w.heap.setIfInBounds b (.map mes' clock') } → mes'.size = es'.length →
      (∀ (i : Nat) (e : MapEntry), mes'[i]? = some e → e.born < clock') → (∀ (i i' : Nat) (e e' : MapEntry), mes'[i]? = some e → mes'[i']? = some e' → e.born = e'.born → i = i') →
      (∀ (i : Nat) (e : MapEntry) (p : PV × PV), mes'[i]? = some e → es'[i]? = some p → VR N w G1.fix G1.heap e.key p.1 ∧ MR N w G1 (.hcell n i) e.val p.2) → u = .dead → st1 = hset st' n (.map es') → o.wp P a w next Q := by
     intro mes' clock' es' hrun b2 b3 b4 b5 hu' hst1
     subst hu' hst1
     obtain ⟨hext2, hnew, hother⟩ := map_write (G := G1) hblt ⟨mes, clock, a1⟩ (by rw [ho1]; simp) mes' clock'
     unfold Oper.wp
     rw [hrun]
     have hkeep2 : Keep (fun k => k = .hobj n) w G1 { w with heap := w.heap.setIfInBounds b (.map mes' clock') } G1 := by
      refine ⟨?_, fun _ _ h => h⟩
      intro x k hxk hnk
      refine ⟨hxk, hother x ?_, fun _ h => h⟩
      rintro rfl
      rw [ho1] at hxk
      simp at hxk
      exact hnk hxk.symm
     have hf2 : FI N { w with heap := w.heap.setIfInBounds b (.map mes' clock') } G1 (hset st' n (.map es')) a vs (lmap vs ops) := by
      refine ⟨hf1.len, fun i t' u' h1 h2 => (hf1.var i t' u' h1 h2).keep hext2 hkeep2 (by simp) (by simp), fun i t' u' h1 h2 => (hf1.loc i t' u' h1 h2).keep hext2 hkeep2 (by simp) (by simp), hf1.tv, hf1.tl, hf1.defers, hf1.gen, ?_, ?_, ?_, ?_⟩
      ·intro x k hx; simpa using hf1.owlt x k hx
      ·intro x o' hx; simpa using hf1.fixlt x o' hx
      ·refine hf1.heap.keepBut hext2 hkeep2 (fun n' k hne => ⟨by simp; omega, by simp⟩) (fun _ => ?_)
       refine .inr ⟨b, hb1, ho1, mes', clock', hnew, b2, b3, b4, ?_⟩
       intro i en p hi hp
       obtain ⟨c1, c2⟩ := b5 i en p hi hp
       exact ⟨c1.ext hext2, c2.keep hext2 hkeep2 (by simp)⟩
      ·simp only [hset, List.length_set]; exact hf1.hdom
     show next (a.put o.dst undef) _
     rw [hput]
     refine hk _ _ G1 ?_ (hext1.trans hext2) rfl
     rw [hdn]
     exact hf2
    have hop' : ∀ w', (Instr.mapUpdate t (.map (some b)) (a.eval x) (a.eval y)).run P w = .ok () w' → (execOp a.eval o).run P w = .ok .skip w' := by
     intro w' h
     rcases hop with hop | hop <;> simp [execOp, hop, hmval, h]
    rcases findK_sound hkk hkv1 (mes := mes.toList) (es := es) (by simpa using a2) (fun i e p h1 h2 => (a5 i e p (by simpa using h1) h2).1) hfi with ⟨rfl, h2⟩ | ⟨i, v', en, p1, rfl, h2, h3, h4, h5⟩
    ·skip
     simp only [Prod.mk.injEq] at hs
     obtain ⟨rfl, rfl⟩ := hs
     refine finish (mes.push { key := a.eval x, val := a.eval y, born := clock }) (clock + 1) (es ++ [(k, v)]) (hop' _ ?_) (by simp [a2]) ?_ ?_ ?_ rfl rfl
     ·simp only [Instr.mapUpdate, Sem.run_bind, run_underlying hu, Result.andThen_ok, run_getObj_map a1, run_checkKeyK hkk hkv1 hfi, h2, run_setObj_map _ a1]
     ·intro i e' he'
      rw [Array.getElem?_push] at he'
      split at he'
      ·simp at he'; subst he'; simp
      ·have := a3 i e' he'; omega
     ·intro i i' e' e'' he' he'' hborn
      rw [Array.getElem?_push] at he' he''
      split at he' <;> split at he''
      ·omega
      ·simp at he'; subst he'
       have := a3 i' e'' he''; simp at hborn; omega
      ·simp at he''; subst he''
       have := a3 i e' he'; simp at hborn; omega
      ·exact a4 i i' e' e'' he' he'' hborn
     ·intro i e' p he' hp
      rw [Array.getElem?_push] at he'
      split at he'
      ·rename_i hi
       simp at he'; subst he'
       rw [List.getElem?_append_right (by omega)] at hp
       have : i - es.length = 0 := by omega
       rw [this] at hp
       simp at hp; subst hp
       refine ⟨hkv1, ?_⟩
       have hidx : idx = i := by show es.length = i; omega
       rw [hidx] at hmr1
       exact hmr1
      ·have hi : i < es.length := by have := (Array.getElem?_eq_some_iff.1 he').1; omega
       rw [List.getElem?_append_left hi] at hp
       exact a5 i e' p he' hp
    ·skip
     simp only [Prod.mk.injEq] at hs
     obtain ⟨rfl, rfl⟩ := hs
     have hidx : idx = i := by show i = i; rfl
     rw [hidx] at hmr1
     have hlt : i < mes.size := by have := (List.getElem?_eq_some_iff.1 h3).1; simpa using this
     have hen : mes[i]? = some en := by rw [← Array.getElem?_toList]; exact h3
     have hbits : Instr.sameBits 10000 en.key (a.eval x) = true := same_bitsK hkv1 (a5 i en (p1, v') hen h4).1 h5 9999
     refine finish (mes.modify i fun e => { e with key := a.eval x, val := a.eval y }) clock (es.set i (k, v)) (hop' _ ?_) (by simp [a2]) ?_ ?_ ?_ rfl rfl
     ·simp only [Instr.mapUpdate, Sem.run_bind, run_underlying hu, Result.andThen_ok, run_getObj_map a1, run_checkKeyK hkk hkv1 hfi, h2, hen, Option.map_some, Option.getD_some, Instr.keyThatStays, hbits, if_true, Sem.run_pure, run_setObj_map _ a1]
     ·intro i' e' he'
      rw [Array.getElem?_modify] at he'
      split at he'
      ·simp only [Option.map_eq_some_iff] at he'
       obtain ⟨e2, h6, rfl⟩ := he'
       exact a3 i' e2 h6
      ·exact a3 i' e' he'
     ·have hb' : ∀ (i' : Nat) (e' : MapEntry), (mes.modify i fun e => { e with key := a.eval x, val := a.eval y })[i']? = some e' → ∃ e2 : MapEntry, mes[i']? = some e2 ∧ e2.born = e'.born := by
       intro i' e' he'
       rw [Array.getElem?_modify] at he'
       split at he'
       ·simp only [Option.map_eq_some_iff] at he'
        obtain ⟨e2, h6, rfl⟩ := he'
        exact ⟨e2, h6, rfl⟩
       ·exact ⟨e', he', rfl⟩
      intro i1 i2 e1 e2 he1 he2 hborn
      obtain ⟨f1, g1, g2⟩ := hb' i1 e1 he1
      obtain ⟨f2, g3, g4⟩ := hb' i2 e2 he2
      exact a4 i1 i2 f1 f2 g1 g3 (by rw [g2, g4, hborn])
     ·intro i' e' p he' hp
      rw [Array.getElem?_modify] at he'
      rw [List.getElem?_set] at hp
      split at he'
      ·rename_i hii
       subst hii
       rw [if_pos rfl] at hp
       split at hp
       ·simp at hp; subst hp
        rw [hen] at he'
        simp at he'; subst he'
        exact ⟨hkv1, hmr1⟩
       ·simp at hp
      ·rename_i hii
       rw [if_neg hii] at hp
       exact a5 i' e' p he' hp
 ·simp at hs
theorem mlen_sound (hE : EnvOk E N) (nm : Names vs (lmap vs ops)) (ho : ops[j]? = some o) (hf : FI N w G st a vs (lmap vs ops)) {t kt e : TypeId} {ts : Array TypeId} {x : Operand} {px : PX} (hop : o.op = .call { callee := .builtin .len, args := #[x], argTypes := ts })
  (h0 : ts[0]? = some t) (hu : P.underlying t = some (.map kt e)) (hx : cx E vs ops x = some px) {cf : CallF} (hs : hopv cf (.mlen px) st = some (u, st1)) (hk : Goes N w G a st1 u vs ops j o next) : o.wp P a w next Q := by
 simp only [hopv] at hs
 split at hs
 ·rename_i n hp
  simp only [Option.map_eq_some_iff, Prod.mk.injEq] at hs
  obtain ⟨es, hg, rfl, rfl⟩ := hs
  have h := (rd_sound hE hx hf hp).1
  generalize hv : a.eval x = v at h
  refine wp_value nm ho hf ?_ (SR.of_pure (.int _ _) rfl) hk
  cases h with
  | mapn =>
    simp only [mget, Option.some.injEq] at hg
    subst hg
    simp only [execOp, hop, resolve, Sem.run_bind, Sem.run_pure, Result.andThen_ok, invoke, builtin, Builtin.len_, h0, List.map_toArray, List.map_cons, List.map_nil, hv, List.getElem?_toArray, List.getElem?_cons_zero, run_underlying hu, goInt]
    rfl
  | map n b hb =>
    obtain ⟨_, _, mes, clock, a1, a2, _⟩ := map_open hf hg hb
    simp only [execOp, hop, resolve, Sem.run_bind, Sem.run_pure, Result.andThen_ok, invoke, builtin, Builtin.len_, h0, List.map_toArray, List.map_cons, List.map_nil, hv, List.getElem?_toArray, List.getElem?_cons_zero, run_underlying hu, goInt, run_getObj_map a1, a2]
 ·simp at hs
/-! ### Closures -/
theorem capt_sound (hE : EnvOk E N) {x : Operand} {px : PX} (hc : cx E vs ops x = some px) (hf : FI N w G st a vs (lmap vs ops)) (ht : capt st px = some (u, st1)) :
  ∃ G', FI N w G' st1 a vs (lmap vs ops) ∧ Ext w G w G' ∧ VR N w G'.fix G'.heap (a.eval x) u := by
 by_cases hloc : ∃ i g cs, px = .v i ∧ raw st px = some (.loc g cs)
 ·obtain ⟨i, g, cs, rfl, hr⟩ := hloc
  simp only [capt, hr, Option.some.injEq, Prod.mk.injEq] at ht
  obtain ⟨rfl, rfl⟩ := ht
  have hs := raw_sound hE hc hf hr
  obtain ⟨b, i', hk, hv, hb, ho, hnf, cv, T, hh, hl, hcr⟩ := hs
  simp only [keyX, Key.var.injEq] at hk
  subst hk
  have hblt := hf.owlt _ _ ho
  let G' : GS := { G with fix := fun b' o => G.fix b' o ∨ (b' = b ∧ o < cs.length), ow := fun b' => if b' = b then none else G.ow b' }
  have hext : Ext w G w G' := by
   refine ⟨rfl, rfl, rfl, Nat.le_refl _, fun _ _ _ => rfl, fun _ _ h => ⟨.inl h, rfl⟩, ?_, ?_, fun _ _ h => h, ShapeLe.refl w, rfl⟩
   ·rintro b' o (h | ⟨rfl, _⟩)
    ·exact .inl h
    ·refine .inr (.inr ?_)
     rw [show G.ow b' = some (keyX (.v i)) from ho]; simp
   ·intro b' h
    simp only [G'] at h
    split at h
    ·simp at h
    ·exact .inr h
  have hkeep : Keep (fun k => k = .var i) w G w G' := by
   refine ⟨?_, fun _ _ h => h⟩
   intro b' k hb' hn
   have hne : b' ≠ b := by rintro rfl; rw [show G.ow b' = some (keyX (.v i)) from ho] at hb'; simp [keyX] at hb'; exact hn hb'.symm
   refine ⟨by simp only [G']; rw [if_neg hne]; exact hb', rfl, ?_⟩
   rintro o (h | ⟨h, _⟩)
   ·exact h
   ·exact absurd h hne
  have hvr : VR N w G'.fix G'.heap (a.eval x) (.cptr (cs.map dem)) := by
   rw [hv]
   refine .cptr b 0 (cs.map dem) (fun k => cv.getD k undef) ?_ ?_ ?_
   ·intro y hy
    obtain ⟨z, hz, rfl⟩ := List.mem_map.1 hy
    obtain ⟨k, hk⟩ := List.mem_iff_getElem?.1 hz
    have hlt : k < cv.size := by have := (List.getElem?_eq_some_iff.1 hk).1; omega
    rw [flat_dem]
    exact (hcr k cv[k] z (by simp [hlt]) hk).2.1
   ·intro k hk
    simp only [List.length_map] at hk
    have hlt : k < cv.size := by omega
    refine ⟨?_, .inr ⟨rfl, by omega⟩⟩
    simp [World.cell?, hh, hlt]
   ·intro k y hy
    simp only [List.getElem?_map, Option.map_eq_some_iff] at hy
    obtain ⟨z, hz, rfl⟩ := hy
    have hlt : k < cv.size := by have := (List.getElem?_eq_some_iff.1 hz).1; omega
    have := (hcr k cv[k] z (by simp [hlt]) hz).1
    simp only [Array.getD_eq_getD_getElem?, Array.getElem?_eq_getElem hlt, Option.getD_some]
    exact this.dem.ext hext
  have hx : ∃ t, vs[i]? = some t ∧ a.eval (.tmp t) = a.eval x := by
   cases x with
   | tmp t =>
     simp only [cx] at hc
     split at hc
     ·rename_i i2 hi
      simp at hc; subst hc
      obtain ⟨_, h2⟩ := idxIn_some hi
      exact ⟨t, by simpa using h2, rfl⟩
     ·simp at hc
   | const v => simp only [cx] at hc; split at hc <;> simp at hc
   | global g => simp [cx] at hc
   | func f => simp [cx] at hc
  obtain ⟨tx, ht1, ht2⟩ := hx
  refine ⟨G', ?_, hext, hvr⟩
  refine ⟨by simp [hf.len], ?_, fun j' t' u' h1 h2 => (hf.loc j' t' u' h1 h2).keep hext hkeep (by simp) (by simp), hf.tv, hf.tl, hf.defers, hf.gen, ?_, ?_, hf.heap.keep hext hkeep (by rintro k hk rfl; simp [Key.isH] at hk), hf.hdom⟩
  ·intro i' t' u' h1 h2
   simp only [List.getElem?_set] at h2
   split at h2
   ·rename_i hi
    subst hi
    split at h2
    ·simp at h2; subst h2
     have : t' = tx := by rw [ht1] at h1; simpa using h1.symm
     subst this
     exact SR.of_pure (ht2 ▸ hvr) rfl
    ·simp at h2
   ·rename_i hi
    exact (hf.var i' t' u' h1 h2).keep hext hkeep (by simp; omega) (by simp)
  ·intro b' k h
   simp only [G'] at h
   split at h
   ·simp at h
   ·exact hf.owlt _ _ h
  ·rintro b' o (h | ⟨rfl, _⟩)
   ·exact hf.fixlt _ _ h
   ·exact hblt
 ·have hcp : capt st px = (rd st px).map (·, st) := by
   unfold capt
   split
   ·rename_i i g cs h; exact absurd ⟨i, g, cs, rfl, h⟩ hloc
   ·rfl
  rw [hcp] at ht
  simp only [Option.map_eq_some_iff, Prod.mk.injEq] at ht
  obtain ⟨r, hr, rfl, rfl⟩ := ht
  exact ⟨G, hf, Ext.refl _ _, (rd_sound hE hc hf hr).1⟩
theorem capts_sound (hE : EnvOk E N) : ∀ {xs : List Operand} {pxs : List PX} {G : GS} {st st1 : St} {us : List PV}, cxs E vs ops xs = some pxs → FI N w G st a vs (lmap vs ops) → capts st pxs = some (us, st1) →
  ∃ G', FI N w G' st1 a vs (lmap vs ops) ∧ Ext w G w G' ∧ xs.length = us.length ∧ ∀ (i : Nat) (x : Operand) (u : PV), xs[i]? = some x → us[i]? = some u → VR N w G'.fix G'.heap (a.eval x) u
 | [], pxs, G, st, st1, us, hc, hf, h => by
   simp [cxs] at hc; subst hc
   simp only [capts, Option.some.injEq, Prod.mk.injEq] at h
   obtain ⟨rfl, rfl⟩ := h
   exact ⟨G, hf, Ext.refl _ _, rfl, by simp⟩
 | x :: xs, pxs, G, st, st1, us, hc, hf, h => by
   simp only [cxs, Option.bind_eq_some_iff, Option.map_eq_some_iff] at hc
   obtain ⟨p, hp, ps, hps, rfl⟩ := hc
   simp only [capts, Option.bind_eq_some_iff, Option.map_eq_some_iff, Prod.mk.injEq] at h
   obtain ⟨⟨v, st2⟩, h1, ⟨q, st3⟩, h2, rfl, rfl⟩ := h
   obtain ⟨G1, f1, e1, v1⟩ := capt_sound hE hp hf h1
   obtain ⟨G2, f2, e2, l2, v2⟩ := capts_sound hE hps f1 h2
   refine ⟨G2, f2, e1.trans e2, by simp [l2], ?_⟩
   intro i y z hy hz
   cases i with
   | zero => simp at hy hz; subst hy hz; exact v1.ext e2
   | succ i => exact v2 i y z (by simpa using hy) (by simpa using hz)
theorem mkfunc_sound (hE : EnvOk E N) (nm : Names vs (lmap vs ops)) (ho : ops[j]? = some o) (hf : FI N w G st a vs (lmap vs ops)) {f : FuncId} {k : Nat} {xs ys : Array Operand} {ps qs : List PX} (hop : o.op = .makeFunc (.func f) xs ys) (hk' : E.inv f = some k)
  (hx : cxs E vs ops xs.toList = some ps) (hy : cxs E vs ops ys.toList = some qs) {cf : CallF} (hs : hopv cf (.mkfunc k ps qs) st = some (u, st1)) (hk : Goes N w G a st1 u vs ops j o next) : o.wp P a w next Q := by
 simp only [hopv, Option.bind_eq_some_iff, Option.map_eq_some_iff, Prod.mk.injEq] at hs
 obtain ⟨⟨us, st2⟩, h1, ⟨zs, st3⟩, h2, rfl, rfl⟩ := hs
 obtain ⟨G1, f1, e1, l1, v1⟩ := capts_sound hE hx hf h1
 obtain ⟨G2, f2, e2, l2, v2⟩ := capts_sound hE hy f1 h2
 have hfn := hE.fn _ _ hk'
 have hfy := hE.yl _ _ hk'
 unfold Oper.wp
 have hrun : (execOp a.eval o).run P w = .ok (.value (.func (.func f) (xs.map a.eval) (ys.map a.eval))) w := by
  simp [execOp, hop, Instr.makeFunc]
 rw [hrun]
 refine hk _ _ G2 (f2.put nm (cDst_ok ho) (SR.of_pure ?_ rfl)) (e1.trans e2) (put_size _ _ _)
 subst hfn
 refine .func k _ _ us zs hfy (by simpa using l1) (by simpa using l2) ?_ ?_
 ·intro i c p hc hp
  simp only [Array.getElem?_map, Option.map_eq_some_iff] at hc
  obtain ⟨x, hx', rfl⟩ := hc
  exact (v1 i x p (by simpa using hx') hp).ext e2
 ·intro i c p hc hp
  simp only [Array.getElem?_map, Option.map_eq_some_iff] at hc
  obtain ⟨x, hx', rfl⟩ := hc
  exact v2 i x p (by simpa using hx') hp
/-! ### Held against nil; arrays -/
theorem equal_nil {t : TypeId} {v c : Value} {b : Bool} (h : (Op.equalIn 10000 t v c).run P w = .ok b w) (op : BinOp) (hop : op = .eql ∨ op = .neq) (x y : Operand)
  (hg : (eqGuard op t x y v c).run P w = .ok () w) (hb1 : binOp .eql t v c = (do let r ← Op.equal t v c; pure (.bool r))) (hb2 : binOp .neq t v c = (do let r ← Op.equal t v c; pure (.bool !r))) :
  (do eqGuard op t x y v c; binOp op t v c : Sem Value).run P w = .ok (.bool (if op == .neq then !b else b)) w := by
 have h' : (Op.equal t v c).run P w = .ok b w := h
 rcases hop with rfl | rfl
 ·simp only [Sem.run_bind, hg, Result.andThen_ok, hb1, h', Sem.run_pure]; rfl
 ·simp only [Sem.run_bind, hg, Result.andThen_ok, hb2, h', Sem.run_pure]; rfl
theorem eqn_slice {t e : TypeId} (hu : P.underlying t = some (.slice e)) (ad : Option Addr) (l c : Nat) : (Op.equalIn 10000 t (.slice ad l c) (.slice none 0 0)).run P w = .ok ad.isNone w := by
 unfold Op.equalIn
 simp only [Sem.run_bind, run_underlying hu, Result.andThen_ok]
 cases ad <;> rfl
theorem eqn_ptr {t e : TypeId} (hu : P.underlying t = some (.pointer e)) (ad : Option Addr) : (Op.equalIn 10000 t (.pointer ad) (.pointer none)).run P w = .ok ad.isNone w := by
 unfold Op.equalIn
 simp only [Sem.run_bind, run_underlying hu, Result.andThen_ok]
 cases ad <;> rfl
theorem eqn_map {t k e : TypeId} (hu : P.underlying t = some (.map k e)) (r : Option Nat) : (Op.equalIn 10000 t (.map r) (.map none)).run P w = .ok r.isNone w := by
 unfold Op.equalIn
 simp only [Sem.run_bind, run_underlying hu, Result.andThen_ok]
 cases r <;> rfl
theorem eqn_iface {t : TypeId} {ms : Array (String × TypeId)} (hu : P.underlying t = some (.interface ms)) (v : Value) (b : Bool) (h : (v = .nilIface ∧ b = true) ∨ (∃ t' x, v = .iface t' x) ∧ b = false) : (Op.equalIn 10000 t v .nilIface).run P w = .ok b w := by
 unfold Op.equalIn
 simp only [Sem.run_bind, run_underlying hu, Result.andThen_ok]
 rcases h with ⟨rfl, rfl⟩ | ⟨⟨t', x, rfl⟩, rfl⟩ <;> rfl
theorem isnil_sound (hE : EnvOk E N) (nm : Names vs (lmap vs ops)) (ho : ops[j]? = some o) (hf : FI N w G st a vs (lmap vs ops)) {op : BinOp} {t t' : TypeId} {x y : Operand} {px : PX} {kd : Nat} (hop : o.op = .binOp op t x y t')
  (hop2 : op = .eql ∨ op = .neq) (ht : nilT P t y = some kd) (hx : cx E vs ops x = some px) {cf : CallF} (hs : hopv cf (.isnil kd (op == .neq) px) st = some (u, st1)) (hk : Goes N w G a st1 u vs ops j o next) : o.wp P a w next Q := by
 simp only [hopv, Option.map_eq_some_iff, Option.bind_eq_some_iff, Prod.mk.injEq] at hs
 obtain ⟨b, ⟨p, hp, hb⟩, rfl, rfl⟩ := hs
 have hv := (rd_sound hE hx hf hp).1
 refine wp_value nm ho hf ?_ (SR.of_pure (.bool _) rfl) hk
 have hguard : ∀ v c : Value, (∀ cs, v ≠ .agg cs) → v ≠ .nilIface → (eqGuard op t x y v c).run P w = .ok () w := by
  intro v c h1 h2
  rcases hop2 with rfl | rfl <;> cases v <;> cases c <;> first | rfl | exact absurd rfl h2 | exact absurd rfl (h1 _)
 have key : (do eqGuard op t x y (a.eval x) (a.eval y); binOp op t (a.eval x) (a.eval y) : Sem Value).run P w = .ok (.bool (if op == .neq then !b else b)) w := by
  unfold nilT at ht
  split at ht <;> simp only [Option.some.injEq, reduceCtorEq] at ht <;> subst ht
  ·rename_i hu
   have hform : ∃ ad l c, a.eval x = .slice ad l c ∧ ad.isNone = b := by
    generalize a.eval x = v at hv
    unfold nilness at hb
    split at hb <;> simp only [Option.some.injEq, reduceCtorEq] at hb <;> subst hb <;> (try (rename_i h0; simp at h0)) <;> cases hv <;> first | exact ⟨_, _, _, rfl, rfl⟩ | simp_all
   obtain ⟨ad, l, c, hx', rfl⟩ := hform
   rw [hx']
   exact equal_nil (eqn_slice hu ad l c) op hop2 x _ (hguard _ _ (by simp) (by simp)) rfl rfl
  ·rename_i hu
   have hform : ∃ ad, a.eval x = .pointer ad ∧ ad.isNone = b := by
    generalize a.eval x = v at hv
    unfold nilness at hb
    split at hb <;> simp only [Option.some.injEq, reduceCtorEq] at hb <;> subst hb <;> (try (rename_i h0; simp at h0)) <;> cases hv <;> exact ⟨_, rfl, rfl⟩
   obtain ⟨ad, hx', rfl⟩ := hform
   rw [hx']
   exact equal_nil (eqn_ptr hu ad) op hop2 x _ (hguard _ _ (by simp) (by simp)) rfl rfl
  ·rename_i hu
   have hform : ∃ ad, a.eval x = .map ad ∧ ad.isNone = b := by
    generalize a.eval x = v at hv
    unfold nilness at hb
    split at hb <;> simp only [Option.some.injEq, reduceCtorEq] at hb <;> subst hb <;> (try (rename_i h0; simp at h0)) <;> cases hv <;> exact ⟨_, rfl, rfl⟩
   obtain ⟨ad, hx', rfl⟩ := hform
   rw [hx']
   exact equal_nil (eqn_map hu ad) op hop2 x _ (hguard _ _ (by simp) (by simp)) rfl rfl
  ·rename_i hu
   have hform : (a.eval x = .nilIface ∧ b = true) ∨ (∃ t' z, a.eval x = .iface t' z) ∧ b = false := by
    generalize a.eval x = v at hv
    unfold nilness at hb
    split at hb <;> simp only [Option.some.injEq, reduceCtorEq] at hb <;> subst hb <;> (try (rename_i h0; simp at h0)) <;> cases hv <;> first | exact .inl ⟨rfl, rfl⟩ | exact .inr ⟨⟨_, _, rfl⟩, rfl⟩
   have hg : (eqGuard op t x (.const .nilIface) (a.eval x) .nilIface).run P w = .ok () w := by
    rcases hform with ⟨h, _⟩ | ⟨⟨t', z, h⟩, _⟩ <;> rw [h] <;> rcases hop2 with rfl | rfl <;> simp [eqGuard]
   have he := eqn_iface (P := P) (w := w) hu _ _ hform
   refine equal_nil he op hop2 x _ hg ?_ ?_ <;> (rcases hform with ⟨h, _⟩ | ⟨⟨t', z, h⟩, _⟩ <;> rw [h] <;> rfl)
 simp only [execOp, hop, Sem.run_bind, key, Result.andThen_ok, Sem.run_pure]
theorem loadc_sound (hE : EnvOk E N) (nm : Names vs (lmap vs ops)) (ho : ops[j]? = some o) (hf : FI N w G st a vs (lmap vs ops)) {t : TypeId} {n : Nat} {x : Operand} {px : PX} (hop : o.op = .load t x) (hn : sizeT P t = some n)
  (hx : cx E vs ops x = some px) {cf : CallF} (hs : hopv cf (.loadc n (isAggT P t) px) st = some (u, st1)) (hk : Goes N w G a st1 u vs ops j o next) : o.wp P a w next Q := by
 simp only [hopv] at hs
 split at hs
 ·rename_i cs ha
  simp only [Option.map_eq_some_iff, Prod.mk.injEq] at hs
  obtain ⟨r, hr, rfl, rfl⟩ := hs
  obtain ⟨r', h1, h2, h3⟩ := load_cptr (P := P) hn (rd_sound hE hx hf ha).1 hr
  exact wp_value nm ho hf (by simp [execOp, hop, h1]) (SR.of_pure h2 h3) hk
 ·simp at hs
theorem nilchk_sound (hE : EnvOk E N) (nm : Names vs (lmap vs ops)) (ho : ops[j]? = some o) (hf : FI N w G st a vs (lmap vs ops)) {x : Operand} {px : PX} (hop : o.op = .nilCheck x)
  (hx : cx E vs ops x = some px) {cf : CallF} (hs : hopv cf (.nilchk px) st = some (u, st1)) (hk : Goes N w G a st1 u vs ops j o next) : o.wp P a w next Q := by
 have run : ∀ ad, a.eval x = .pointer (some ad) → (execOp a.eval o).run P w = .ok (.value (.pointer (some ad))) w := by
  intro ad h
  simp [execOp, hop, h]
 simp only [hopv] at hs
 split at hs
 ·rename_i n off ha
  simp only [Option.some.injEq, Prod.mk.injEq] at hs
  obtain ⟨rfl, rfl⟩ := hs
  obtain ⟨b, hv, hb⟩ := addr_ptr hE hx hf ha
  exact wp_value nm ho hf (run _ hv) (SR.of_pure (.ptr _ _ b hb) rfl) hk
 ·rename_i cs ha
  simp only [Option.some.injEq, Prod.mk.injEq] at hs
  obtain ⟨rfl, rfl⟩ := hs
  rcases addr_sound hE hx hf ha with ⟨_, _, _, _, h, _⟩ | ⟨h, _⟩
  ·simp at h
  ·generalize hv : a.eval x = v at h
   have h' := h
   cases h with
   | cptr b off _ cv _ _ _ => exact wp_value nm ho hf (run _ hv) (SR.of_pure h' rfl) hk
 ·rename_i s g off ha
  simp only [Option.some.injEq, Prod.mk.injEq] at hs
  obtain ⟨rfl, rfl⟩ := hs
  rcases addr_sound hE hx hf ha with ⟨_, _, _, b, h, hv, hb⟩ | ⟨_, h⟩
  ·simp only [PV.lptr.injEq] at h
   obtain ⟨rfl, rfl, rfl⟩ := h
   exact wp_value nm ho hf (run _ hv) (SR.lptr rfl hb) hk
  ·simp [cp] at h
 ·simp at hs
theorem barr_sound (hE : EnvOk E N) (nm : Names vs (lmap vs ops)) (ho : ops[j]? = some o) (hf : FI N w G st a vs (lmap vs ops)) {t e : TypeId} {n size : Nat} {parts : Array (Nat × Operand)} {z : List PV} {ps : List (Nat × Nat × PX)}
  (hop : o.op = .build t parts) (hu : P.underlying t = some (.array n e)) (hn : sizeT P e = some size) (hz : zeroT P t = some z)
  (hc : cParts E vs ops (fun i => some (i * size, size)) parts.toList = some ps) {cf : CallF} (hs : hopv cf (.barr z ps) st = some (u, st1)) (hk : Goes N w G a st1 u vs ops j o next) : o.wp P a w next Q := by
 simp only [hopv, Option.map_eq_some_iff, Option.bind_eq_some_iff, Prod.mk.injEq] at hs
 obtain ⟨rs, ⟨qs, hq, hset⟩, rfl, rfl⟩ := hs
 obtain ⟨i, zv, hi, hzv, _, _, hR, hO⟩ := zeroT_sound (N := N) (w := w) (fix := G.fix) (hp := G.heap) hz
 obtain ⟨ie, d, hie, hsz, _, _⟩ := info_underlying hn
 obtain ⟨ds, h1, h2, h3⟩ := rdParts_sound hE hf hc hq hset hR hO
 refine wp_value nm ho hf (v := .agg ds) ?_ (SR.of_pure (by simpa using h2.agg h3) rfl) hk
 have hb : P.built t (parts.map fun (i, x) => (i, a.eval x)).toList = some ds := by
  simp only [Program.built, hi, hu, hzv, hie, hsz]
  simpa using h1
 simp [execOp, hop, run_build w t _ ds hb]
theorem idxA_sound (hE : EnvOk E N) (nm : Names vs (lmap vs ops)) (ho : ops[j]? = some o) (hf : FI N w G st a vs (lmap vs ops)) {t e : TypeId} {len n : Nat} {x i : Operand} {px pi : PX} (hop : o.op = .index t x i)
  (hu : P.underlying t = some (.array len e)) (hn : sizeT P e = some n) (hx : cx E vs ops x = some px) (hi : cx E vs ops i = some pi) {cf : CallF}
  (hs : hopv cf (.idxA len n (isAggT P e) px pi) st = some (u, st1)) (hk : Goes N w G a st1 u vs ops j o next) : o.wp P a w next Q := by
 have hn0 : n ≠ 0 := by obtain ⟨_, _, _, _, h, _⟩ := info_underlying hn; exact h
 simp only [hopv] at hs
 split at hs
 ·rename_i ps k hps hki
  split at hs
  ·rename_i hk2
   simp only [Option.map_eq_some_iff, Prod.mk.injEq] at hs
   obtain ⟨r, hr, rfl, rfl⟩ := hs
   obtain ⟨cs, hv, hR⟩ := CellsR.of_agg (rd_sound hE hx hf hps).1
   obtain ⟨kk, hik⟩ := rdInt_sound hE hi hf hki
   obtain ⟨h1, h2, h3⟩ := loadFrom_sound hR hr hn0 (sizeT_one hn)
   refine wp_value nm ho hf ?_ (SR.of_pure h2 h3) hk
   have hx : (part e cs (k.toNat * n)).run P w = .ok (if isAggT P e then .agg ((cs.toList.drop (k.toNat * n)).take n).toArray else (cs.toList.drop (k.toNat * n)).headD undef) w := by
    simp only [part, Sem.run_bind, run_isAggT hn, Sem.run_ite, run_sizeT hn, Result.andThen_ok, Sem.run_pure]
    by_cases ha : isAggT P e = true
    ·simp only [ha, if_true]
     congr 2
     apply Array.ext'
     simp
    ·simp only [Bool.not_eq_true] at ha
     have hlt : k.toNat * n < cs.size := by simp at h1; omega
     simp [ha, List.drop_eq_getElem_cons (l := cs.toList) (i := k.toNat * n) (by simpa using hlt), hlt]
   simp [execOp, hop, Instr.index, hik, asIntOf, run_underlying hu, hv, hk2, run_sizeT hn, hx]
  ·simp at hs
 ·simp at hs
end
end PI
