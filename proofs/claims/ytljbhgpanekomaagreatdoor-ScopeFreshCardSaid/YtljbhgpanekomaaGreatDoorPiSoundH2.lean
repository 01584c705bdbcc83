import Derived.Test.YtljbhgpanekomaaGreatDoorPiSound7
import Derived.Laws.MakeOwn
import Derived.Laws.RangeString
set_option linter.unusedSimpArgs false
set_option linter.unusedVariables false
namespace PI
open Go Go.MapKept
section
variable {E : Env} {N : Nm} {w : World} {G : GS} {st : St} {a : Act} {vs : List Tmp} {ops : List Oper} {P : Program}
variable {o : Oper} {j : Nat} {next : Act → World → Prop} {Q : Exit → Act → World → Prop} {u : PV} {st1 : St}
theorem bytesEq (s t : ByteArray) : (s == t) = (s.data.toList == t.data.toList) := by
 rw [Bool.eq_iff_iff, MapKept.bytes_beq, beq_iff_eq]
 constructor
 ·rintro rfl; rfl
 ·intro h
  obtain ⟨⟨s⟩⟩ := s
  obtain ⟨⟨t⟩⟩ := t
  simpa using h
theorem same_sound {kt : TypeId} {d : TypeDesc} {kk : EK} {fix : Nat → Nat → Prop} {hp : Nat → Option Nat} {vx vy : Value} {x y : PV} {b : Bool} (hd : P.underlying kt = some d) (hk : ekT P kt = some kk) (hx : VR N w fix hp vx x) (hy : VR N w fix hp vy y) (h : peq1 kk x y = some b) :
  Instr.sameNow d vx vy = some b := by
 unfold ekT at hk
 rw [hd] at hk
 unfold peq1 at h
 split at h
 ·cases hx; cases hy
  simp only [Option.some.injEq] at h; subst h
  split at hk <;> simp at hk
  rename_i hdd
  simp at hdd; subst hdd
  rfl
 ·cases hx; cases hy
  split at h
  ·subst_vars
   simp only [Option.some.injEq] at h; subst h
   split at hk <;> simp at hk
   rename_i hdd
   simp at hdd; subst hdd
   simp [Instr.sameNow]
  ·simp at h
 ·cases hx; cases hy
  simp only [Option.some.injEq] at h; subst h
  split at hk <;> simp at hk
  rename_i hdd
  simp at hdd; subst hdd
  simp only [Instr.sameNow, bytesEq]
 ·simp at h
theorem same_bits {fix : Nat → Nat → Prop} {hp : Nat → Option Nat} {kk : EK} {vx vy : Value} {x y : PV} (hx : VR N w fix hp vx x) (hy : VR N w fix hp vy y) (h : peq1 kk x y = some true) (n : Nat) : Instr.sameBits n vy vx = true := by
 unfold peq1 at h
 split at h
 ·cases hx; cases hy
  simp at h; subst h; simp [Instr.sameBits]
 ·cases hx; cases hy
  split at h
  ·subst_vars
   simp at h; subst h; simp [Instr.sameBits]
  ·simp at h
 ·cases hx with
  | str s =>
    cases hy with
    | str t =>
      have e : (s == t) = true := by rw [bytesEq]; simpa using h
      have e' : s = t := (MapKept.bytes_beq s t).1 e
      subst e'
      simpa [Instr.sameBits] using e
 ·simp at h
theorem find_sound {kt : TypeId} {d : TypeDesc} {kk : EK} {fix : Nat → Nat → Prop} {hp : Nat → Option Nat} {kv : Value} {kp : PV} (hd : P.underlying kt = some d) (hk : ekT P kt = some kk) (hkv : VR N w fix hp kv kp) :
  ∀ {mes : List MapEntry} {es : List (PV × PV)} {i : Nat} {r : Option (Nat × PV)}, mes.length = es.length → (∀ (i : Nat) (e : MapEntry) (p : PV × PV), mes[i]? = some e → es[i]? = some p → VR N w fix hp e.key p.1) →
  mfind false [kk] kp es i = some r →
  (r = none ∧ Instr.findNow d kv mes i = some none) ∨ (∃ n v e p1, r = some (i + n, v) ∧ Instr.findNow d kv mes i = some (some (i + n, e.val)) ∧ mes[n]? = some e ∧ es[n]? = some (p1, v) ∧ peq1 kk kp p1 = some true)
 | [], [], i, r, _, _, h => by
   simp [mfind] at h; subst h
   exact .inl ⟨rfl, rfl⟩
 | e :: mes, p :: es, i, r, hl, hv, h => by
   simp only [mfind, peq, Bool.false_eq_true, if_false, Option.bind_eq_some_iff] at h
   obtain ⟨b, hb, h⟩ := h
   have hs := same_sound hd hk hkv (hv 0 e p rfl rfl) hb
   cases b with
   | true =>
     simp at h; subst h
     exact .inr ⟨0, p.2, e, p.1, rfl, by simp [Instr.findNow, hs], rfl, rfl, hb⟩
   | false =>
     simp at h
     rcases find_sound hd hk hkv (mes := mes) (es := es) (by simpa using hl) (fun i e p h1 h2 => hv (i + 1) e p (by simpa using h1) (by simpa using h2)) h with ⟨h1, h2⟩ | ⟨n, v, e', p1, h1, h2, h3, h4, h5⟩
     ·exact .inl ⟨h1, by simp [Instr.findNow, hs, h2]⟩
     ·exact .inr ⟨n + 1, v, e', p1, by rw [h1]; simp; omega, by simp [Instr.findNow, hs, h2]; omega, by simpa using h3, by simpa using h4, h5⟩
 | [], _ :: _, _, _, hl, _, _ => by simp at hl
 | _ :: _, [], _, _, hl, _, _ => by simp at hl
theorem run_checkKeyT {kt : TypeId} {kk : EK} (hk : ekT P kt = some kk) (b : Bool) (v : Value) : (Instr.checkKey b 10000 kt v).run P w = .ok () w := by
 unfold ekT at hk
 unfold Instr.checkKey
 split at hk
 ·rename_i hu; simp only [Sem.run_bind, run_underlying hu, Result.andThen_ok]; cases v <;> rfl
 ·rename_i hu; simp only [Sem.run_bind, run_underlying hu, Result.andThen_ok]; cases v <;> rfl
 ·rename_i hu; simp only [Sem.run_bind, run_underlying hu, Result.andThen_ok]; cases v <;> rfl
 ·simp at hk
theorem keyT_cases {kt : TypeId} {kk : Bool × List EK} (h : keyT P kt = some kk) : (∃ k, ekT P kt = some k ∧ kk = (false, [k])) ∨
  ∃ fs, P.underlying kt = some (.struct fs) ∧ eqFields P fs.toList 0 = some kk.2 ∧ kk.1 = true ∧ P.stoodInHeld kt = false := by
 unfold keyT at h
 split at h
 ·rename_i k hk
  simp only [Option.some.injEq] at h
  exact .inl ⟨k, hk, h.symm⟩
 ·split at h
  ·rename_i ks hks
   simp only [Option.some.injEq] at h
   subst h
   unfold eqT at hks
   split at hks
   ·simp at hks
   ·simp at hks
   ·simp at hks
   ·rename_i fs hu
    split at hks
    ·rename_i ks' hks'
     split at hks
     ·rename_i hcond
      simp only [Option.some.injEq, Prod.mk.injEq, true_and] at hks
      subst hks
      simp only [Bool.and_eq_true, Bool.not_eq_true'] at hcond
      exact .inr ⟨fs, hu, hks', rfl, hcond.1⟩
     ·simp at hks
    ·simp at hks
   ·simp at hks
  ·simp at h
theorem eqFields_len : ∀ {fs : List Field} {off : Nat} {ks : List EK}, eqFields P fs off = some ks → ks.length = fs.length ∧ ∀ f ∈ fs, ∃ i, off ≤ i ∧ i < off + fs.length ∧ f.offset = i ∧ f.name ≠ "_" ∧ sizeT P f.type = some 1 ∧ isAggT P f.type = false ∧ ∃ k, ekT P f.type = some k
 | [], off, ks, h => by simp [eqFields] at h; subst h; simp
 | f :: fs, off, ks, h => by
   simp only [eqFields] at h
   split at h
   ·rename_i hc
    simp only [Option.bind_eq_some_iff, Option.map_eq_some_iff] at h
    obtain ⟨k, hk, ks', hks, rfl⟩ := h
    obtain ⟨h1, h2⟩ := eqFields_len hks
    refine ⟨by simp [h1], ?_⟩
    intro g hg
    rcases List.mem_cons.1 hg with rfl | hg
    ·exact ⟨off, Nat.le_refl _, by simp, hc.1, hc.2.1, hc.2.2.1, hc.2.2.2, k, hk⟩
    ·obtain ⟨i, a1, a2, a3⟩ := h2 g hg
     exact ⟨i, by omega, by simp; omega, a3⟩
   ·simp at h
theorem peqs_len : ∀ {ks : List EK} {xs ys : List PV} {b : Bool}, peqs ks xs ys = some b → xs.length = ks.length ∧ ys.length = ks.length
 | [], xs, ys, b, h => by cases xs <;> cases ys <;> simp_all [peqs]
 | k :: ks, xs, ys, b, h => by
   cases xs with
   | nil => simp [peqs] at h
   | cons x xs =>
     cases ys with
     | nil => simp [peqs] at h
     | cons y ys =>
       simp only [peqs, Option.bind_eq_some_iff, Option.map_eq_some_iff] at h
       obtain ⟨_, _, _, h2, _⟩ := h
       obtain ⟨a1, a2⟩ := peqs_len h2
       simp [a1, a2]
theorem mfind_agg {ks : List EK} {kp : PV} {es : List (PV × PV)} {i : Nat} {r} (h : mfind true ks kp es i = some r) : ∃ cs, kp = .agg cs ∧ cs.length = ks.length := by
 cases es with
 | nil =>
   rw [mfind.eq_def] at h
   cases kp <;> simp only [Option.ite_none_right_eq_some, reduceCtorEq] at h <;> exact ⟨_, rfl, h.1⟩
 | cons e es =>
   simp only [mfind, Option.bind_eq_some_iff] at h
   obtain ⟨b, hb, _⟩ := h
   simp only [peq, if_true] at hb
   split at hb
   ·exact ⟨_, rfl, (peqs_len hb).1⟩
   ·simp at hb
theorem run_checkKeyK {kt : TypeId} {kk : Bool × List EK} {G : GS} {kv : Value} {kp : PV} (hk : keyT P kt = some kk) (hkv : VR N w G.fix G.heap kv kp) {es : List (PV × PV)} {i : Nat} {r} (h : mfind kk.1 kk.2 kp es i = some r) (b : Bool) : (Instr.checkKey b 10000 kt kv).run P w = .ok () w := by
 rcases keyT_cases hk with ⟨k, hk', rfl⟩ | ⟨fs, hu, hf, h1, _⟩
 ·exact run_checkKeyT hk' b kv
 ·rw [h1] at h
  obtain ⟨cs, rfl, hl⟩ := mfind_agg h
  obtain ⟨vs, rfl, hc⟩ := CellsR.of_agg hkv
  obtain ⟨e1, e2⟩ := eqFields_len hf
  have hsz : vs.size = fs.size := by have := hc.1; simp at this; simp at e1; omega
  have key : ∀ (l : List Field), (∀ f ∈ l, f ∈ fs.toList) → ((do for f in l do if f.name ≠ "_" then Instr.checkKey b 9999 f.type (← part f.type vs f.offset)) : Sem Unit).run P w = .ok () w := by
   intro l
   induction l with
   | nil => intro _; rfl
   | cons f l ih =>
     intro hl
     obtain ⟨i, a1, a2, a3, a4, a5, a6, k, a7⟩ := e2 f (hl f (by simp))
     have hlt : i < vs.size := by simp at a2; omega
     have hpart : (part f.type vs f.offset).run P w = .ok vs[i] w := by
      simp [part, run_isAggT a5, a6, a3, hlt]
     have hck : (Instr.checkKey b 9999 f.type vs[i]).run P w = .ok () w := by
      unfold ekT at a7
      unfold Instr.checkKey
      split at a7
      ·rename_i hu; simp only [Sem.run_bind, run_underlying hu, Result.andThen_ok]; cases vs[i] <;> rfl
      ·rename_i hu; simp only [Sem.run_bind, run_underlying hu, Result.andThen_ok]; cases vs[i] <;> rfl
      ·rename_i hu; simp only [Sem.run_bind, run_underlying hu, Result.andThen_ok]; cases vs[i] <;> rfl
      ·simp at a7
     have ih' := ih (fun g hg => hl g (by simp [hg]))
     rw [List.forIn_cons]
     simp only [Sem.run_bind, ne_eq, a4, not_false_eq_true, if_true, hpart, Result.andThen_ok, hck, Sem.run_pure] at ih' ⊢
     exact ih'
  unfold Instr.checkKey
  simp only [Sem.run_bind, run_underlying hu, Result.andThen_ok, ← Array.forIn_toList]
  have := key fs.toList (fun _ h => h)
  rw [Sem.run_bind] at this
  exact this
theorem same_bitsS {ks : List EK} : ∀ {xs ys : List PV} {cs ds : List Value}, peqs ks xs ys = some true → cs.length = xs.length → ds.length = ys.length → ∀ {fix : Nat → Nat → Prop} {hp : Nat → Option Nat}, (∀ (i : Nat) (v : Value) (p : PV), cs[i]? = some v → xs[i]? = some p → VR N w fix hp v p) →
  (∀ (i : Nat) (v : Value) (p : PV), ds[i]? = some v → ys[i]? = some p → VR N w fix hp v p) → ∀ n, ((ds.zip cs).all fun (x, y) => Instr.sameBits n x y) = true := by
 induction ks with
 | nil =>
   intro xs ys cs ds h h1 h2 fix hp hx hy n
   obtain ⟨a1, a2⟩ := peqs_len h
   simp at a1 a2
   subst a1 a2
   simp at h1 h2
   subst h1 h2
   rfl
 | cons k ks ih =>
   intro xs ys cs ds h h1 h2 fix hp hx hy n
   cases xs with
   | nil => simp [peqs] at h
   | cons x xs =>
     cases ys with
     | nil => simp [peqs] at h
     | cons y ys =>
       simp only [peqs, Option.bind_eq_some_iff, Option.map_eq_some_iff] at h
       obtain ⟨b1, hb1, b2, hb2, hb⟩ := h
       simp only [Bool.and_eq_true] at hb
       obtain ⟨rfl, rfl⟩ := hb
       cases cs with
       | nil => simp at h1
       | cons c cs =>
         cases ds with
         | nil => simp at h2
         | cons d ds =>
           simp only [List.zip_cons_cons, List.all_cons, Bool.and_eq_true]
           exact ⟨same_bits (hx 0 c x rfl rfl) (hy 0 d y rfl rfl) hb1 n, ih hb2 (by simpa using h1) (by simpa using h2) (fun i v p a b => hx (i + 1) v p (by simpa using a) (by simpa using b)) (fun i v p a b => hy (i + 1) v p (by simpa using a) (by simpa using b)) n⟩
theorem same_bitsK {kk : Bool × List EK} {G : GS} {vx vy : Value} {x y : PV} (hx : VR N w G.fix G.heap vx x) (hy : VR N w G.fix G.heap vy y) (h : peq kk.1 kk.2 x y = some true) (n : Nat) : Instr.sameBits (n + 1) vy vx = true := by
 unfold peq at h
 split at h
 ·split at h
  ·rename_i xs ys
   obtain ⟨cs, rfl, hc⟩ := CellsR.of_agg hx
   obtain ⟨ds, rfl, hd⟩ := CellsR.of_agg hy
   obtain ⟨a1, a2⟩ := peqs_len h
   have h1 := hc.1
   have h2 := hd.1
   simp only [Instr.sameBits, Bool.and_eq_true, beq_iff_eq]
   refine ⟨by simp at h1 h2; omega, same_bitsS h (by simpa using h1) (by simpa using h2) (fun i v p a b => hc.2.2 i v p (by simpa using a) b) (fun i v p a b => hd.2.2 i v p (by simpa using a) b) n⟩
  ·simp at h
 ·split at h
  ·exact same_bits hx hy h (n + 1)
  ·simp at h
theorem findK_sound {kt : TypeId} {kk : Bool × List EK} {G : GS} {kv : Value} {kp : PV} (hk : keyT P kt = some kk) (hkv : VR N w G.fix G.heap kv kp) {mes : List MapEntry} {es : List (PV × PV)} {r : Option (Nat × PV)} (hl : mes.length = es.length)
  (hv : ∀ (i : Nat) (e : MapEntry) (p : PV × PV), mes[i]? = some e → es[i]? = some p → VR N w G.fix G.heap e.key p.1) (h : mfind kk.1 kk.2 kp es 0 = some r) :
  (r = none ∧ (Instr.findKey kt kv mes).run P w = .ok none w) ∨ (∃ n v e p1, r = some (n, v) ∧ (Instr.findKey kt kv mes).run P w = .ok (some (n, e.val)) w ∧ mes[n]? = some e ∧ es[n]? = some (p1, v) ∧ peq kk.1 kk.2 kp p1 = some true) := by
 rcases keyT_cases hk with ⟨k, hk', rfl⟩ | ⟨fs, hu, hf, h1, hst⟩
 ·obtain ⟨d, hd⟩ : ∃ d, P.underlying kt = some d := by
   unfold ekT at hk'
   split at hk' <;> first | exact ⟨_, by assumption⟩ | simp at hk'
  rcases find_sound hd hk' hkv hl hv h with ⟨a1, a2⟩ | ⟨n, v, e, p1, a1, a2, a3, a4, a5⟩
  ·exact .inl ⟨a1, run_findKey hd a2⟩
  ·simp only [Nat.zero_add] at a1 a2
   exact .inr ⟨n, v, e, p1, a1, run_findKey hd a2, a3, a4, by simpa [peq] using a5⟩
 ·simp only [h1] at h ⊢
  have ask : ∀ (mes : List MapEntry) (es : List (PV × PV)) (i : Nat) (r : Option (Nat × PV)), mes.length = es.length → (∀ (i : Nat) (e : MapEntry) (p : PV × PV), mes[i]? = some e → es[i]? = some p → VR N w G.fix G.heap e.key p.1) → mfind true kk.2 kp es i = some r →
    (r = none ∧ (Instr.findAsking kt kv mes i).run P w = .ok none w) ∨ (∃ n v e p1, r = some (i + n, v) ∧ (Instr.findAsking kt kv mes i).run P w = .ok (some (i + n, e.val)) w ∧ mes[n]? = some e ∧ es[n]? = some (p1, v) ∧ peq true kk.2 kp p1 = some true) := by
   intro mes
   induction mes with
   | nil =>
     intro es i r hl hv h
     cases es with
     | cons _ _ => simp at hl
     | nil =>
       obtain ⟨cs, rfl, hlen⟩ := mfind_agg h
       rw [mfind.eq_def] at h
       simp only [hlen, if_true, Option.some.injEq] at h
       subst h
       exact .inl ⟨rfl, by simp [Instr.findAsking]⟩
   | cons e mes ih =>
     intro es i r hl hv h
     cases es with
     | nil => simp at hl
     | cons p es =>
       simp only [mfind, Option.bind_eq_some_iff] at h
       obtain ⟨b, hb, h⟩ := h
       have hb0 := hb
       simp only [peq, if_true] at hb
       split at hb
       ·rename_i ys hys _
        have hve := hv 0 e p rfl rfl
        rw [hys] at hve
        clear hys
        obtain ⟨cs, rfl, hc⟩ := CellsR.of_agg hkv
        obtain ⟨ds, hds, hd⟩ := CellsR.of_agg hve
        have hfo : P.fieldsOf kt = fs := by simp [Program.fieldsOf, hu]
        have heq := run_equalIn_struct (P := P) w 9999 kt cs ds (by rw [hfo]; exact hu) hst
        rw [hfo, peqs_sound hc hd hf (by simpa using hb)] at heq
        have heq' : (Op.equal kt (.agg cs) e.key).run P w = .ok b w := by
         rw [hds]
         simpa [Op.equal, Op.maxDepth] using heq
        cases b with
        | true =>
          simp at h; subst h
          exact .inr ⟨0, p.2, e, p.1, rfl, by simp [Instr.findAsking, heq'], rfl, rfl, hb0⟩
        | false =>
          simp at h
          rcases ih es (i + 1) r (by simpa using hl) (fun i e p a b => hv (i + 1) e p (by simpa using a) (by simpa using b)) h with ⟨a1, a2⟩ | ⟨n, v, e', p1, a1, a2, a3, a4, a5⟩
          ·exact .inl ⟨a1, by simp [Instr.findAsking, heq', a2]⟩
          ·exact .inr ⟨n + 1, v, e', p1, by rw [a1]; simp; omega, by simp [Instr.findAsking, heq', a2]; omega, by simpa using a3, by simpa using a4, a5⟩
       ·simp at hb
  have hfk : (Instr.findKey kt kv mes).run P w = (Instr.findAsking kt kv mes 0).run P w := by
   obtain ⟨cs, rfl, _⟩ := mfind_agg h
   obtain ⟨vs, rfl, _⟩ := CellsR.of_agg hkv
   unfold Instr.findKey
   simp only [Sem.run_bind, run_underlying hu, Result.andThen_ok]
   cases mes with
   | nil => simp [Instr.findNow, Instr.findAsking]
   | cons e mes =>
     have : Instr.findNow (.struct fs) (.agg vs) (e :: mes) 0 = none := by simp [Instr.findNow, Instr.sameNow]
     rw [this]
  rw [hfk]
  rcases ask mes es 0 r hl hv h with h | ⟨n, v, e, p1, a1, a2, a3⟩
  ·exact .inl h
  ·exact .inr ⟨n, v, e, p1, by simpa using a1, by simpa using a2, a3⟩
theorem zeroV_sound {fix : Nat → Nat → Prop} {hp : Nat → Option Nat} {t : TypeId} {z : PV} (h : zeroV P t = some z) : ∃ zv, (zeroValue t).run P w = .ok zv w ∧ VR N w fix hp zv z ∧ ((∃ es, z = .list true es ∧ zv = .slice none 0 0) ∨ cp z = some z) := by
 unfold zeroV at h
 split at h
 ·rename_i i hi
  simp only [Option.bind_eq_some_iff] at h
  obtain ⟨zv, h1, h2⟩ := h
  exact ⟨zv, by simp [zeroValue, typeInfo, hi, h1], constPV_sound h2, constPV_form h2⟩
 ·simp at h
theorem VR.cp_dem' {fix : Nat → Nat → Prop} {hp : Nat → Option Nat} {v : Value} {p : PV} (h : VR N w fix hp v p) : cp (PI.dem p) = some (PI.dem p) := by
 cases h <;> rfl
theorem map_open (hf : FI N w G st a vs (lmap vs ops)) {n b : Nat} {es : List (PV × PV)} (hg : mget st (some n) = some es) (hb : G.heap n = some b) :
  G.ow b = some (.hobj n) ∧ st.heap[n]? = some (.map es) ∧ ObjR N w G n b (.map es) := by
 unfold mget at hg
 simp only at hg
 split at hg
 ·rename_i es' hn
  simp at hg; subst hg
  rcases hf.heap.1 n _ hn with e | ⟨b', h1, h2, h3⟩
  ·simp at e
  have : b' = b := by rw [hb] at h1; simpa using h1.symm
  subst this
  exact ⟨h2, hn, h3⟩
 ·simp at hg
theorem MR.read {key : Key} {v : Value} {p : PV} (h : MR N w G key v p) : VR N w G.fix G.heap v (dem p) := h.1.dem
theorem lookup_sound (hE : EnvOk E N) (nm : Names vs (lmap vs ops)) (ho : ops[j]? = some o) (hf : FI N w G st a vs (lmap vs ops)) {t kt e : TypeId} {m x : Operand} {ok : Bool} {kk : Bool × List EK} {z : PV} {pm px : PX} {tk : Bool}
  (hop : o.op = .lookup t m x ok) (hu : P.underlying t = some (.map kt e)) (hkk : keyT P kt = some kk) (hz : zeroV P e = some z) (hm : cx E vs ops m = some pm) (hx : cx E vs ops x = some px) {cf : CallF}
  (hs : hopv cf (.lookup ok tk kk.1 kk.2 z pm px) st = some (u, st1)) (hk : Goes N w G a st1 u vs ops j o next) : o.wp P a w next Q := by
 obtain ⟨zv, hz1, hz2, hz3⟩ := zeroV_sound (P := P) (N := N) (w := w) (fix := G.fix) (hp := G.heap) hz
 simp only [hopv] at hs
 split at hs
 ·rename_i n k hrm hrk
  have hkv := (rd_sound hE hx hf hrk).1
  have hmv := (rd_sound hE hm hf hrm).1
  simp only [Option.bind_eq_some_iff] at hs
  obtain ⟨es, hg, r, hfi, hs⟩ := hs
  have run : ∀ (mes : Array MapEntry) (r' : Option (Nat × Value)), (a.eval m = .map none ∧ mes = #[] ∨ ∃ b clock, a.eval m = .map (some b) ∧ w.heap[b]? = some (.map mes clock)) → (Instr.findKey kt (a.eval x) mes.toList).run P w = .ok r' w →
    (execOp a.eval o).run P w = .ok (.value (if ok then .tuple #[(r'.map Prod.snd).getD zv, .bool r'.isSome] else (r'.map Prod.snd).getD zv)) w := by
   intro mes r' h1 h2
   have hfk := h2
   rcases h1 with ⟨h1, rfl⟩ | ⟨b, clock, h1, h3⟩
   ·simp only [execOp, hop, Instr.lookup, Sem.run_bind, run_underlying hu, Result.andThen_ok, h1, Sem.run_pure, run_checkKeyK hkk hkv hfi, hfk]
    cases r' with
    | none => simp [hz1]
    | some q => simp
   ·simp only [execOp, hop, Instr.lookup, Sem.run_bind, run_underlying hu, Result.andThen_ok, h1, run_getObj_map h3, Sem.run_pure, run_checkKeyK hkk hkv hfi, hfk]
    cases r' with
    | none => simp [hz1]
    | some q => simp
  generalize hmval : a.eval m = mv at hmv run
  cases hmv with
  | mapn =>
    simp only [mget, Option.some.injEq] at hg
    subst hg
    have h0 := findK_sound (P := P) hkk hkv (mes := []) (es := []) rfl (by simp) hfi
    have h0' : r = none ∧ (Instr.findKey kt (a.eval x) []).run P w = .ok none w := by
     rcases h0 with h0 | ⟨n, v, e, p1, _, _, h3, _⟩
     ·exact h0
     ·simp at h3
    obtain ⟨rfl, hfn⟩ := h0'
    simp only [Option.some.injEq, Prod.mk.injEq] at hs
    obtain ⟨rfl, rfl⟩ := hs
    have hrun := run #[] none (.inl ⟨rfl, rfl⟩) hfn
    simp only [Option.map_none, Option.getD_none, Option.isSome_none] at hrun
    cases ok with
    | true =>
      refine wp_value nm ho hf hrun (SR.of_pure (.tuple _ _ rfl ?_) rfl) hk
      intro i c p hc hp
      match i, hc, hp with
      | 0, hc, hp => simp at hc hp; subst hc hp; exact hz2
      | 1, hc, hp => simp at hc hp; subst hc hp; exact .bool _
    | false =>
      refine wp_value nm ho hf hrun ?_ hk
      rcases hz3 with ⟨es, rfl, rfl⟩ | h
      ·exact ⟨hz2, trivial⟩
      ·exact SR.of_pure hz2 h
  | map n b hb =>
    obtain ⟨ho1, hgn, hobj⟩ := map_open hf hg hb
    obtain ⟨mes, clock, a1, a2, a3, a4, a5⟩ := hobj
    have hK : (Value.map (some b) = .map none ∧ mes = #[]) ∨ ∃ b' clock, Value.map (some b) = .map (some b') ∧ w.heap[b']? = some (.map mes clock) := .inr ⟨b, clock, rfl, a1⟩
    rcases findK_sound hkk hkv (mes := mes.toList) (es := es) (by simpa using a2) (fun i e p h1 h2 => (a5 i e p (by simpa using h1) h2).1) hfi with ⟨rfl, h2⟩ | ⟨i, v, en, p1, rfl, h2, h3, h4, _⟩
    ·have hrun := run mes none hK h2
     simp only [Option.some.injEq, Prod.mk.injEq] at hs
     obtain ⟨rfl, rfl⟩ := hs
     simp only [Option.map_none, Option.getD_none, Option.isSome_none] at hrun
     cases ok with
     | true =>
       refine wp_value nm ho hf hrun (SR.of_pure (.tuple _ _ rfl ?_) rfl) hk
       intro i c p hc hp
       match i, hc, hp with
       | 0, hc, hp => simp at hc hp; subst hc hp; exact hz2
       | 1, hc, hp => simp at hc hp; subst hc hp; exact .bool _
     | false =>
       refine wp_value nm ho hf hrun ?_ hk
       rcases hz3 with ⟨es, rfl, rfl⟩ | h
       ·exact ⟨hz2, trivial⟩
       ·exact SR.of_pure hz2 h
    ·have hrun := run mes _ hK h2
     have hmr := (a5 i en (p1, v) (by simpa using h3) h4).2
     simp only [Option.map_some, Option.getD_some, Option.isSome_some] at hrun
     simp only at hs
     split at hs
     ·
      rename_i htk
      simp only [Bool.and_eq_true, Bool.not_eq_true'] at htk
      obtain ⟨⟨_, hok⟩, hown⟩ := htk
      subst hok
      have : ∃ l, v = .list true l := by
       unfold isOwn at hown
       split at hown
       ·exact ⟨_, rfl⟩
       ·simp at hown
      obtain ⟨l, rfl⟩ := this
      simp only [Option.some.injEq, Prod.mk.injEq] at hs
      obtain ⟨rfl, rfl⟩ := hs
      obtain ⟨hvr, hroom⟩ := hmr
      obtain ⟨G', hG, hroom'⟩ := Room.give (key' := keyD (cDst vs o.dst) j) hroom
      have hgg : G'.box = G.box ∧ G'.fix = G.fix ∧ G'.heap = G.heap := by
       rcases hG with rfl | ⟨b, _, rfl⟩ <;> exact ⟨rfl, rfl, rfl⟩
      have hext : Ext w G w G' := by
       rcases hG with rfl | ⟨b, hb, rfl⟩
       ·exact Ext.refl _ _
       ·exact give_ext b _ (fun _ => by simp [hb])
      have hkeep : Keep (fun k => k = .hcell n i) w G w G' := by
       rcases hG with rfl | ⟨b, hb, rfl⟩
       ·exact ⟨fun b k h _ => ⟨h, rfl, fun _ h => h⟩, fun _ _ h => h⟩
       ·exact give_keep b _ (fun k' hk' => by rw [hb] at hk'; simpa using hk'.symm)
      have hf1 : FI N w G' (hset st n (.map (es.modify i fun e => (e.1, dem e.2)))) a vs (lmap vs ops) := by
       refine ⟨hf.len, fun i' t' u' h1 h2 => (hf.var i' t' u' h1 h2).keep hext hkeep (by simp) (by simp), fun i' t' u' h1 h2 => (hf.loc i' t' u' h1 h2).keep hext hkeep (by simp) (by simp), hf.tv, hf.tl, (hf.defers.trans hext.df.symm), by rw [hgg.1]; exact hf.gen, ?_, by rw [hgg.2.1]; exact hf.fixlt, ?_, ?_⟩
       ·intro b' k hb'
        rcases hG with rfl | ⟨b2, hb2, rfl⟩
        ·exact hf.owlt _ _ hb'
        ·simp only [GS.give] at hb'
         split at hb'
         ·subst_vars; exact hf.owlt _ _ hb2
         ·exact hf.owlt _ _ hb'
       ·refine hf.heap.keepBut hext hkeep (fun n' k hne => ⟨by simp, by simp; omega⟩) (fun _ => ?_)
        refine .inr ⟨b, hext.heap _ _ hb, (hkeep.1 _ _ ho1 (by simp)).1, mes, clock, a1, by simpa using a2, a3, a4, ?_⟩
        intro i' e' p' he' hp'
        rw [List.getElem?_modify] at hp'
        by_cases hii : i = i'
        ·subst hii
         rw [h4] at hp'
         simp at hp'; subst hp'
         have : e' = en := by rw [← Array.getElem?_toList] at he'; rw [h3] at he'; simpa using he'.symm
         subst this
         obtain ⟨b1, b2⟩ := a5 i e' (p1, .list true l) he' h4
         exact ⟨b1.ext hext, (b2.1.dem).ext hext, trivial⟩
        ·simp only [hii, if_false, Option.map_eq_map] at hp'
         have hp'' : es[i']? = some p' := by simpa using hp'
         obtain ⟨b1, b2⟩ := a5 i' e' p' he' hp''
         exact ⟨b1.ext hext, b2.keep hext hkeep (by simp; omega)⟩
       ·rw [hgg.2.2]; simp only [hset, List.length_set]; exact hf.hdom
      unfold Oper.wp
      rw [hrun]
      exact hk _ _ G' (hf1.put nm (cDst_ok ho) ⟨hvr.ext hext, hroom'⟩) hext (put_size _ _ _)
     ·simp only [Option.some.injEq, Prod.mk.injEq] at hs
      obtain ⟨rfl, rfl⟩ := hs
      have hdv : VR N w G.fix G.heap en.val (dem v) := hmr.1.dem
      cases ok with
      | true =>
        refine wp_value nm ho hf hrun (SR.of_pure (.tuple _ _ rfl ?_) rfl) hk
        intro i c p hc hp
        match i, hc, hp with
        | 0, hc, hp => simp at hc hp; subst hc hp; exact hdv
        | 1, hc, hp => simp at hc hp; subst hc hp; exact .bool _
      | false => exact wp_value nm ho hf hrun (SR.of_pure hdv hmr.1.cp_dem') hk
 ·simp at hs
theorem map_write {b : Nat} (hb : b < w.heap.size) (hold : ∃ mes clock, w.heap[b]? = some (.map mes clock)) (hfx : G.ow b ≠ none) (mes' : Array MapEntry) (clock' : Nat) :
  let w' : World := { w with heap := w.heap.setIfInBounds b (.map mes' clock') }
  Ext w G w' G ∧ w'.heap[b]? = some (.map mes' clock') ∧ ∀ x, x ≠ b → w'.heap[x]? = w.heap[x]? := by
 intro w'
 have hsame : ∀ x, x ≠ b → w'.heap[x]? = w.heap[x]? := fun x hx => by simp [w', Array.getElem?_setIfInBounds, Ne.symm hx]
 have hnew : w'.heap[b]? = some (.map mes' clock') := by simp [w', Array.getElem?_setIfInBounds, hb]
 refine ⟨⟨rfl, rfl, rfl, by simp [w'], ?_, ?_, fun _ _ h => .inl h, fun _ h => .inr h, fun _ _ h => h, .one b (fun k _ hk => hsame k hk) (fun s hx => by obtain ⟨mes, clock, h⟩ := hold; simp [World.shape?, h] at hx) (fun s hx => by obtain ⟨mes, clock, h⟩ := hold; simp [loopOf, h] at hx), rfl⟩, hnew, hsame⟩
 ·intro x _ hx
  exact hsame x (by rintro rfl; exact hfx hx)
 ·intro x o hx
  refine ⟨hx, ?_⟩
  by_cases hxb : x = b
  ·subst hxb
   obtain ⟨mes, clock, h⟩ := hold
   simp only [World.cell?, hnew, h]
  ·simp only [World.cell?, hsame x hxb]
theorem mset_sound (hE : EnvOk E N) (nm : Names vs (lmap vs ops)) (ho : ops[j]? = some o) (hf : FI N w G st a vs (lmap vs ops)) {t kt e : TypeId} {m x y : Operand} {kk : Bool × List EK} {pm px py : PX}
  (hop : o.op = .mapUpdate t m x y ∨ o.op = .insert t m x y) (hdst : o.dst = none) (hu : P.underlying t = some (.map kt e)) (hkk : keyT P kt = some kk) (hm : cx E vs ops m = some pm) (hx : cx E vs ops x = some px) (hy : cx E vs ops y = some py) {cf : CallF}
  (hs : hopv cf (.mset kk.1 kk.2 pm px py) st = some (u, st1)) (hk : Goes N w G a st1 u vs ops j o next) : o.wp P a w next Q := by
 simp only [hopv] at hs
 split at hs
 ·rename_i n k v st' hrm hrk htk
  have hkv := (rd_sound hE hx hf hrk).1
  have hmv := (rd_sound hE hm hf hrm).1
  simp only [Option.bind_eq_some_iff, Option.map_eq_some_iff] at hs
  obtain ⟨es, hg, r, hfi, hs⟩ := hs
  generalize hmval : a.eval m = mv at hmv
  cases hmv with
  | map _ b hb =>
    let idx : Nat := match r with | some (i, _) => i | none => es.length
    obtain ⟨G1, hf1, hext1, hbox1, hfix1, hheap1, hvr, htaken, _, _, _⟩ := tk_sound hE hy hf htk (.hcell n idx)
    have hb1 : G1.heap n = some b := by rw [hheap1]; exact hb
    obtain ⟨ho1, hgn, hobj⟩ := map_open hf1 hg hb1
    obtain ⟨mes, clock, a1, a2, a3, a4, a5⟩ := hobj
    have hkv1 : VR N w G1.fix G1.heap (a.eval x) k := by rw [hfix1, hheap1]; exact hkv
    have hvr1 : VR N w G1.fix G1.heap (a.eval y) v := by rw [hfix1, hheap1]; exact hvr
    have hmr1 : MR N w G1 (.hcell n idx) (a.eval y) v := by
     refine ⟨hvr1, ?_⟩
     split
     ·exact htaken
     ·trivial
    have hblt : b < w.heap.size := hf1.owlt _ _ ho1
    have hput : a.put o.dst undef = a := by simp [hdst, Act.put]
    have hdn : cDst vs o.dst = .n := by simp [hdst, cDst]
    have finish : ∀ (mes' : Array MapEntry) (clock' : Nat) (es' : List (PV × PV)), (execOp a.eval o).run P w = .ok .skip { w with heap := w.heap.setIfInBounds b (.map mes' clock') } → mes'.size = es'.length →
      (∀ (i : Nat) (e : MapEntry), mes'[i]? = some e → e.born < clock') → (∀ (i i' : Nat) (e e' : MapEntry), mes'[i]? = some e → mes'[i']? = some e' → e.born = e'.born → i = i') →
      (∀ (i : Nat) (e : MapEntry) (p : PV × PV), mes'[i]? = some e → es'[i]? = some p → VR N w G1.fix G1.heap e.key p.1 ∧ MR N w G1 (.hcell n i) e.val p.2) → u = .dead → st1 = hset st' n (.map es') → o.wp P a w next Q := by
     intro mes' clock' es' hrun b2 b3 b4 b5 hu' hst1
     subst hu' hst1
     obtain ⟨hext2, hnew, hother⟩ := map_write (G := G1) hblt ⟨mes, clock, a1⟩ (by rw [ho1]; simp) mes' clock'
     unfold Oper.wp
     rw [hrun]
     have hkeep2 : Keep (fun k => k = .hobj n) w G1 { w with heap := w.heap.setIfInBounds b (.map mes' clock') } G1 := by
      refine ⟨?_, fun _ _ h => h⟩
      intro x k hxk hnk
      refine ⟨hxk, hother x ?_, fun _ h => h⟩
      rintro rfl
      rw [ho1] at hxk
      simp at hxk
      exact hnk hxk.symm
     have hf2 : FI N { w with heap := w.heap.setIfInBounds b (.map mes' clock') } G1 (hset st' n (.map es')) a vs (lmap vs ops) := by
      refine ⟨hf1.len, fun i t' u' h1 h2 => (hf1.var i t' u' h1 h2).keep hext2 hkeep2 (by simp) (by simp), fun i t' u' h1 h2 => (hf1.loc i t' u' h1 h2).keep hext2 hkeep2 (by simp) (by simp), hf1.tv, hf1.tl, hf1.defers, hf1.gen, ?_, ?_, ?_, ?_⟩
      ·intro x k hx; simpa using hf1.owlt x k hx
      ·intro x o' hx; simpa using hf1.fixlt x o' hx
      ·refine hf1.heap.keepBut hext2 hkeep2 (fun n' k hne => ⟨by simp; omega, by simp⟩) (fun _ => ?_)
       refine .inr ⟨b, hb1, ho1, mes', clock', hnew, b2, b3, b4, ?_⟩
       intro i en p hi hp
       obtain ⟨c1, c2⟩ := b5 i en p hi hp
       exact ⟨c1.ext hext2, c2.keep hext2 hkeep2 (by simp)⟩
      ·simp only [hset, List.length_set]; exact hf1.hdom
     show next (a.put o.dst undef) _
     rw [hput]
     refine hk _ _ G1 ?_ (hext1.trans hext2) rfl
     rw [hdn]
     exact hf2
    have hop' : ∀ w', (Instr.mapUpdate t (.map (some b)) (a.eval x) (a.eval y)).run P w = .ok () w' → (execOp a.eval o).run P w = .ok .skip w' := by
     intro w' h
     rcases hop with hop | hop <;> simp [execOp, hop, hmval, h]
    rcases findK_sound hkk hkv1 (mes := mes.toList) (es := es) (by simpa using a2) (fun i e p h1 h2 => (a5 i e p (by simpa using h1) h2).1) hfi with ⟨rfl, h2⟩ | ⟨i, v', en, p1, rfl, h2, h3, h4, h5⟩
    ·
     simp only [Prod.mk.injEq] at hs
     obtain ⟨rfl, rfl⟩ := hs
     refine finish (mes.push { key := a.eval x, val := a.eval y, born := clock }) (clock + 1) (es ++ [(k, v)]) (hop' _ ?_) (by simp [a2]) ?_ ?_ ?_ rfl rfl
     ·simp only [Instr.mapUpdate, Sem.run_bind, run_underlying hu, Result.andThen_ok, run_getObj_map a1, run_checkKeyK hkk hkv1 hfi, h2, run_setObj_map _ a1]
     ·intro i e' he'
      rw [Array.getElem?_push] at he'
      split at he'
      ·simp at he'; subst he'; simp
      ·have := a3 i e' he'; omega
     ·intro i i' e' e'' he' he'' hborn
      rw [Array.getElem?_push] at he' he''
      split at he' <;> split at he''
      ·omega
      ·simp at he'; subst he'
       have := a3 i' e'' he''; simp at hborn; omega
      ·simp at he''; subst he''
       have := a3 i e' he'; simp at hborn; omega
      ·exact a4 i i' e' e'' he' he'' hborn
     ·intro i e' p he' hp
      rw [Array.getElem?_push] at he'
      split at he'
      ·rename_i hi
       simp at he'; subst he'
       rw [List.getElem?_append_right (by omega)] at hp
       have : i - es.length = 0 := by omega
       rw [this] at hp
       simp at hp; subst hp
       refine ⟨hkv1, ?_⟩
       have hidx : idx = i := by show es.length = i; omega
       rw [hidx] at hmr1
       exact hmr1
      ·have hi : i < es.length := by have := (Array.getElem?_eq_some_iff.1 he').1; omega
       rw [List.getElem?_append_left hi] at hp
       exact a5 i e' p he' hp
    ·
     simp only [Prod.mk.injEq] at hs
     obtain ⟨rfl, rfl⟩ := hs
     have hidx : idx = i := by show i = i; rfl
     rw [hidx] at hmr1
     have hlt : i < mes.size := by have := (List.getElem?_eq_some_iff.1 h3).1; simpa using this
     have hen : mes[i]? = some en := by rw [← Array.getElem?_toList]; exact h3
     have hbits : Instr.sameBits 10000 en.key (a.eval x) = true := same_bitsK hkv1 (a5 i en (p1, v') hen h4).1 h5 9999
     refine finish (mes.modify i fun e => { e with key := a.eval x, val := a.eval y }) clock (es.set i (k, v)) (hop' _ ?_) (by simp [a2]) ?_ ?_ ?_ rfl rfl
     ·simp only [Instr.mapUpdate, Sem.run_bind, run_underlying hu, Result.andThen_ok, run_getObj_map a1, run_checkKeyK hkk hkv1 hfi, h2, hen, Option.map_some, Option.getD_some, Instr.keyThatStays, hbits, if_true, Sem.run_pure, run_setObj_map _ a1]
     ·intro i' e' he'
      rw [Array.getElem?_modify] at he'
      split at he'
      ·simp only [Option.map_eq_some_iff] at he'
       obtain ⟨e2, h6, rfl⟩ := he'
       exact a3 i' e2 h6
      ·exact a3 i' e' he'
     ·have hb' : ∀ (i' : Nat) (e' : MapEntry), (mes.modify i fun e => { e with key := a.eval x, val := a.eval y })[i']? = some e' → ∃ e2 : MapEntry, mes[i']? = some e2 ∧ e2.born = e'.born := by
       intro i' e' he'
       rw [Array.getElem?_modify] at he'
       split at he'
       ·simp only [Option.map_eq_some_iff] at he'
        obtain ⟨e2, h6, rfl⟩ := he'
        exact ⟨e2, h6, rfl⟩
       ·exact ⟨e', he', rfl⟩
      intro i1 i2 e1 e2 he1 he2 hborn
      obtain ⟨f1, g1, g2⟩ := hb' i1 e1 he1
      obtain ⟨f2, g3, g4⟩ := hb' i2 e2 he2
      exact a4 i1 i2 f1 f2 g1 g3 (by rw [g2, g4, hborn])
     ·intro i' e' p he' hp
      rw [Array.getElem?_modify] at he'
      rw [List.getElem?_set] at hp
      split at he'
      ·rename_i hii
       subst hii
       rw [if_pos rfl] at hp
       split at hp
       ·simp at hp; subst hp
        rw [hen] at he'
        simp at he'; subst he'
        exact ⟨hkv1, hmr1⟩
       ·simp at hp
      ·rename_i hii
       rw [if_neg hii] at hp
       exact a5 i' e' p he' hp
 ·simp at hs
theorem mlen_sound (hE : EnvOk E N) (nm : Names vs (lmap vs ops)) (ho : ops[j]? = some o) (hf : FI N w G st a vs (lmap vs ops)) {t kt e : TypeId} {ts : Array TypeId} {x : Operand} {px : PX} (hop : o.op = .call { callee := .builtin .len, args := #[x], argTypes := ts })
  (h0 : ts[0]? = some t) (hu : P.underlying t = some (.map kt e)) (hx : cx E vs ops x = some px) {cf : CallF} (hs : hopv cf (.mlen px) st = some (u, st1)) (hk : Goes N w G a st1 u vs ops j o next) : o.wp P a w next Q := by
 simp only [hopv] at hs
 split at hs
 ·rename_i n hp
  simp only [Option.map_eq_some_iff, Prod.mk.injEq] at hs
  obtain ⟨es, hg, rfl, rfl⟩ := hs
  have h := (rd_sound hE hx hf hp).1
  generalize hv : a.eval x = v at h
  refine wp_value nm ho hf ?_ (SR.of_pure (.int _ _) rfl) hk
  cases h with
  | mapn =>
    simp only [mget, Option.some.injEq] at hg
    subst hg
    simp only [execOp, hop, resolve, Sem.run_bind, Sem.run_pure, Result.andThen_ok, invoke, builtin, Builtin.len_, h0, List.map_toArray, List.map_cons, List.map_nil, hv, List.getElem?_toArray, List.getElem?_cons_zero, run_underlying hu, goInt]
    rfl
  | map n b hb =>
    obtain ⟨_, _, mes, clock, a1, a2, _⟩ := map_open hf hg hb
    simp only [execOp, hop, resolve, Sem.run_bind, Sem.run_pure, Result.andThen_ok, invoke, builtin, Builtin.len_, h0, List.map_toArray, List.map_cons, List.map_nil, hv, List.getElem?_toArray, List.getElem?_cons_zero, run_underlying hu, goInt, run_getObj_map a1, a2]
 ·simp at hs
theorem capt_sound (hE : EnvOk E N) {x : Operand} {px : PX} (hc : cx E vs ops x = some px) (hf : FI N w G st a vs (lmap vs ops)) (ht : capt st px = some (u, st1)) :
  ∃ G', FI N w G' st1 a vs (lmap vs ops) ∧ Ext w G w G' ∧ VR N w G'.fix G'.heap (a.eval x) u := by
 by_cases hloc : ∃ i g cs, px = .v i ∧ raw st px = some (.loc g cs)
 ·obtain ⟨i, g, cs, rfl, hr⟩ := hloc
  simp only [capt, hr, Option.some.injEq, Prod.mk.injEq] at ht
  obtain ⟨rfl, rfl⟩ := ht
  have hs := raw_sound hE hc hf hr
  obtain ⟨b, i', hk, hv, hb, ho, hnf, cv, T, hh, hl, hcr⟩ := hs
  simp only [keyX, Key.var.injEq] at hk
  subst hk
  have hblt := hf.owlt _ _ ho
  let G' : GS := { G with fix := fun b' o => G.fix b' o ∨ (b' = b ∧ o < cs.length), ow := fun b' => if b' = b then none else G.ow b' }
  have hext : Ext w G w G' := by
   refine ⟨rfl, rfl, rfl, Nat.le_refl _, fun _ _ _ => rfl, fun _ _ h => ⟨.inl h, rfl⟩, ?_, ?_, fun _ _ h => h, ShapeLe.refl w, rfl⟩
   ·rintro b' o (h | ⟨rfl, _⟩)
    ·exact .inl h
    ·refine .inr (.inr ?_)
     rw [show G.ow b' = some (keyX (.v i)) from ho]; simp
   ·intro b' h
    simp only [G'] at h
    split at h
    ·simp at h
    ·exact .inr h
  have hkeep : Keep (fun k => k = .var i) w G w G' := by
   refine ⟨?_, fun _ _ h => h⟩
   intro b' k hb' hn
   have hne : b' ≠ b := by rintro rfl; rw [show G.ow b' = some (keyX (.v i)) from ho] at hb'; simp [keyX] at hb'; exact hn hb'.symm
   refine ⟨by simp only [G']; rw [if_neg hne]; exact hb', rfl, ?_⟩
   rintro o (h | ⟨h, _⟩)
   ·exact h
   ·exact absurd h hne
  have hvr : VR N w G'.fix G'.heap (a.eval x) (.cptr (cs.map dem)) := by
   rw [hv]
   refine .cptr b 0 (cs.map dem) (fun k => cv.getD k undef) ?_ ?_ ?_
   ·intro y hy
    obtain ⟨z, hz, rfl⟩ := List.mem_map.1 hy
    obtain ⟨k, hk⟩ := List.mem_iff_getElem?.1 hz
    have hlt : k < cv.size := by have := (List.getElem?_eq_some_iff.1 hk).1; omega
    rw [flat_dem]
    exact (hcr k cv[k] z (by simp [hlt]) hk).2.1
   ·intro k hk
    simp only [List.length_map] at hk
    have hlt : k < cv.size := by omega
    refine ⟨?_, .inr ⟨rfl, by omega⟩⟩
    simp [World.cell?, hh, hlt]
   ·intro k y hy
    simp only [List.getElem?_map, Option.map_eq_some_iff] at hy
    obtain ⟨z, hz, rfl⟩ := hy
    have hlt : k < cv.size := by have := (List.getElem?_eq_some_iff.1 hz).1; omega
    have := (hcr k cv[k] z (by simp [hlt]) hz).1
    simp only [Array.getD_eq_getD_getElem?, Array.getElem?_eq_getElem hlt, Option.getD_some]
    exact this.dem.ext hext
  have hx : ∃ t, vs[i]? = some t ∧ a.eval (.tmp t) = a.eval x := by
   cases x with
   | tmp t =>
     simp only [cx] at hc
     split at hc
     ·rename_i i2 hi
      simp at hc; subst hc
      obtain ⟨_, h2⟩ := idxIn_some hi
      exact ⟨t, by simpa using h2, rfl⟩
     ·simp at hc
   | const v => simp only [cx] at hc; split at hc <;> simp at hc
   | global g => simp [cx] at hc
   | func f => simp [cx] at hc
  obtain ⟨tx, ht1, ht2⟩ := hx
  refine ⟨G', ?_, hext, hvr⟩
  refine ⟨by simp [hf.len], ?_, fun j' t' u' h1 h2 => (hf.loc j' t' u' h1 h2).keep hext hkeep (by simp) (by simp), hf.tv, hf.tl, hf.defers, hf.gen, ?_, ?_, hf.heap.keep hext hkeep (by rintro k hk rfl; simp [Key.isH] at hk), hf.hdom⟩
  ·intro i' t' u' h1 h2
   simp only [List.getElem?_set] at h2
   split at h2
   ·rename_i hi
    subst hi
    split at h2
    ·simp at h2; subst h2
     have : t' = tx := by rw [ht1] at h1; simpa using h1.symm
     subst this
     exact SR.of_pure (ht2 ▸ hvr) rfl
    ·simp at h2
   ·rename_i hi
    exact (hf.var i' t' u' h1 h2).keep hext hkeep (by simp; omega) (by simp)
  ·intro b' k h
   simp only [G'] at h
   split at h
   ·simp at h
   ·exact hf.owlt _ _ h
  ·rintro b' o (h | ⟨rfl, _⟩)
   ·exact hf.fixlt _ _ h
   ·exact hblt
 ·have hcp : capt st px = (rd st px).map (·, st) := by
   unfold capt
   split
   ·rename_i i g cs h; exact absurd ⟨i, g, cs, rfl, h⟩ hloc
   ·rfl
  rw [hcp] at ht
  simp only [Option.map_eq_some_iff, Prod.mk.injEq] at ht
  obtain ⟨r, hr, rfl, rfl⟩ := ht
  exact ⟨G, hf, Ext.refl _ _, (rd_sound hE hc hf hr).1⟩
theorem capts_sound (hE : EnvOk E N) : ∀ {xs : List Operand} {pxs : List PX} {G : GS} {st st1 : St} {us : List PV}, cxs E vs ops xs = some pxs → FI N w G st a vs (lmap vs ops) → capts st pxs = some (us, st1) →
  ∃ G', FI N w G' st1 a vs (lmap vs ops) ∧ Ext w G w G' ∧ xs.length = us.length ∧ ∀ (i : Nat) (x : Operand) (u : PV), xs[i]? = some x → us[i]? = some u → VR N w G'.fix G'.heap (a.eval x) u
 | [], pxs, G, st, st1, us, hc, hf, h => by
   simp [cxs] at hc; subst hc
   simp only [capts, Option.some.injEq, Prod.mk.injEq] at h
   obtain ⟨rfl, rfl⟩ := h
   exact ⟨G, hf, Ext.refl _ _, rfl, by simp⟩
 | x :: xs, pxs, G, st, st1, us, hc, hf, h => by
   simp only [cxs, Option.bind_eq_some_iff, Option.map_eq_some_iff] at hc
   obtain ⟨p, hp, ps, hps, rfl⟩ := hc
   simp only [capts, Option.bind_eq_some_iff, Option.map_eq_some_iff, Prod.mk.injEq] at h
   obtain ⟨⟨v, st2⟩, h1, ⟨q, st3⟩, h2, rfl, rfl⟩ := h
   obtain ⟨G1, f1, e1, v1⟩ := capt_sound hE hp hf h1
   obtain ⟨G2, f2, e2, l2, v2⟩ := capts_sound hE hps f1 h2
   refine ⟨G2, f2, e1.trans e2, by simp [l2], ?_⟩
   intro i y z hy hz
   cases i with
   | zero => simp at hy hz; subst hy hz; exact v1.ext e2
   | succ i => exact v2 i y z (by simpa using hy) (by simpa using hz)
theorem mkfunc_sound (hE : EnvOk E N) (nm : Names vs (lmap vs ops)) (ho : ops[j]? = some o) (hf : FI N w G st a vs (lmap vs ops)) {f : FuncId} {k : Nat} {xs ys : Array Operand} {ps qs : List PX} (hop : o.op = .makeFunc (.func f) xs ys) (hk' : E.inv f = some k)
  (hx : cxs E vs ops xs.toList = some ps) (hy : cxs E vs ops ys.toList = some qs) {cf : CallF} (hs : hopv cf (.mkfunc k ps qs) st = some (u, st1)) (hk : Goes N w G a st1 u vs ops j o next) : o.wp P a w next Q := by
 simp only [hopv, Option.bind_eq_some_iff, Option.map_eq_some_iff, Prod.mk.injEq] at hs
 obtain ⟨⟨us, st2⟩, h1, ⟨zs, st3⟩, h2, rfl, rfl⟩ := hs
 obtain ⟨G1, f1, e1, l1, v1⟩ := capts_sound hE hx hf h1
 obtain ⟨G2, f2, e2, l2, v2⟩ := capts_sound hE hy f1 h2
 have hfn := hE.fn _ _ hk'
 have hfy := hE.yl _ _ hk'
 unfold Oper.wp
 have hrun : (execOp a.eval o).run P w = .ok (.value (.func (.func f) (xs.map a.eval) (ys.map a.eval))) w := by
  simp [execOp, hop, Instr.makeFunc]
 rw [hrun]
 refine hk _ _ G2 (f2.put nm (cDst_ok ho) (SR.of_pure ?_ rfl)) (e1.trans e2) (put_size _ _ _)
 subst hfn
 refine .func k _ _ us zs hfy (by simpa using l1) (by simpa using l2) ?_ ?_
 ·intro i c p hc hp
  simp only [Array.getElem?_map, Option.map_eq_some_iff] at hc
  obtain ⟨x, hx', rfl⟩ := hc
  exact (v1 i x p (by simpa using hx') hp).ext e2
 ·intro i c p hc hp
  simp only [Array.getElem?_map, Option.map_eq_some_iff] at hc
  obtain ⟨x, hx', rfl⟩ := hc
  exact v2 i x p (by simpa using hx') hp
theorem equal_nil {t : TypeId} {v c : Value} {b : Bool} (h : (Op.equalIn 10000 t v c).run P w = .ok b w) (op : BinOp) (hop : op = .eql ∨ op = .neq) (x y : Operand)
  (hg : (eqGuard op t x y v c).run P w = .ok () w) (hb1 : binOp .eql t v c = (do let r ← Op.equal t v c; pure (.bool r))) (hb2 : binOp .neq t v c = (do let r ← Op.equal t v c; pure (.bool !r))) :
  (do eqGuard op t x y v c; binOp op t v c : Sem Value).run P w = .ok (.bool (if op == .neq then !b else b)) w := by
 have h' : (Op.equal t v c).run P w = .ok b w := h
 rcases hop with rfl | rfl
 ·simp only [Sem.run_bind, hg, Result.andThen_ok, hb1, h', Sem.run_pure]; rfl
 ·simp only [Sem.run_bind, hg, Result.andThen_ok, hb2, h', Sem.run_pure]; rfl
theorem eqn_slice {t e : TypeId} (hu : P.underlying t = some (.slice e)) (ad : Option Addr) (l c : Nat) : (Op.equalIn 10000 t (.slice ad l c) (.slice none 0 0)).run P w = .ok ad.isNone w := by
 unfold Op.equalIn
 simp only [Sem.run_bind, run_underlying hu, Result.andThen_ok]
 cases ad <;> rfl
theorem eqn_ptr {t e : TypeId} (hu : P.underlying t = some (.pointer e)) (ad : Option Addr) : (Op.equalIn 10000 t (.pointer ad) (.pointer none)).run P w = .ok ad.isNone w := by
 unfold Op.equalIn
 simp only [Sem.run_bind, run_underlying hu, Result.andThen_ok]
 cases ad <;> rfl
theorem eqn_map {t k e : TypeId} (hu : P.underlying t = some (.map k e)) (r : Option Nat) : (Op.equalIn 10000 t (.map r) (.map none)).run P w = .ok r.isNone w := by
 unfold Op.equalIn
 simp only [Sem.run_bind, run_underlying hu, Result.andThen_ok]
 cases r <;> rfl
theorem eqn_iface {t : TypeId} {ms : Array (String × TypeId)} (hu : P.underlying t = some (.interface ms)) (v : Value) (b : Bool) (h : (v = .nilIface ∧ b = true) ∨ (∃ t' x, v = .iface t' x) ∧ b = false) : (Op.equalIn 10000 t v .nilIface).run P w = .ok b w := by
 unfold Op.equalIn
 simp only [Sem.run_bind, run_underlying hu, Result.andThen_ok]
 rcases h with ⟨rfl, rfl⟩ | ⟨⟨t', x, rfl⟩, rfl⟩ <;> rfl
theorem isnil_sound (hE : EnvOk E N) (nm : Names vs (lmap vs ops)) (ho : ops[j]? = some o) (hf : FI N w G st a vs (lmap vs ops)) {op : BinOp} {t t' : TypeId} {x y : Operand} {px : PX} {kd : Nat} (hop : o.op = .binOp op t x y t')
  (hop2 : op = .eql ∨ op = .neq) (ht : nilT P t y = some kd) (hx : cx E vs ops x = some px) {cf : CallF} (hs : hopv cf (.isnil kd (op == .neq) px) st = some (u, st1)) (hk : Goes N w G a st1 u vs ops j o next) : o.wp P a w next Q := by
 simp only [hopv, Option.map_eq_some_iff, Option.bind_eq_some_iff, Prod.mk.injEq] at hs
 obtain ⟨b, ⟨p, hp, hb⟩, rfl, rfl⟩ := hs
 have hv := (rd_sound hE hx hf hp).1
 refine wp_value nm ho hf ?_ (SR.of_pure (.bool _) rfl) hk
 have hguard : ∀ v c : Value, (∀ cs, v ≠ .agg cs) → v ≠ .nilIface → (eqGuard op t x y v c).run P w = .ok () w := by
  intro v c h1 h2
  rcases hop2 with rfl | rfl <;> cases v <;> cases c <;> first | rfl | exact absurd rfl h2 | exact absurd rfl (h1 _)
 have key : (do eqGuard op t x y (a.eval x) (a.eval y); binOp op t (a.eval x) (a.eval y) : Sem Value).run P w = .ok (.bool (if op == .neq then !b else b)) w := by
  unfold nilT at ht
  split at ht <;> simp only [Option.some.injEq, reduceCtorEq] at ht <;> subst ht
  ·rename_i hu
   have hform : ∃ ad l c, a.eval x = .slice ad l c ∧ ad.isNone = b := by
    generalize a.eval x = v at hv
    unfold nilness at hb
    split at hb <;> simp only [Option.some.injEq, reduceCtorEq] at hb <;> subst hb <;> (try (rename_i h0; simp at h0)) <;> cases hv <;> first | exact ⟨_, _, _, rfl, rfl⟩ | simp_all
   obtain ⟨ad, l, c, hx', rfl⟩ := hform
   rw [hx']
   exact equal_nil (eqn_slice hu ad l c) op hop2 x _ (hguard _ _ (by simp) (by simp)) rfl rfl
  ·rename_i hu
   have hform : ∃ ad, a.eval x = .pointer ad ∧ ad.isNone = b := by
    generalize a.eval x = v at hv
    unfold nilness at hb
    split at hb <;> simp only [Option.some.injEq, reduceCtorEq] at hb <;> subst hb <;> (try (rename_i h0; simp at h0)) <;> cases hv <;> exact ⟨_, rfl, rfl⟩
   obtain ⟨ad, hx', rfl⟩ := hform
   rw [hx']
   exact equal_nil (eqn_ptr hu ad) op hop2 x _ (hguard _ _ (by simp) (by simp)) rfl rfl
  ·rename_i hu
   have hform : ∃ ad, a.eval x = .map ad ∧ ad.isNone = b := by
    generalize a.eval x = v at hv
    unfold nilness at hb
    split at hb <;> simp only [Option.some.injEq, reduceCtorEq] at hb <;> subst hb <;> (try (rename_i h0; simp at h0)) <;> cases hv <;> exact ⟨_, rfl, rfl⟩
   obtain ⟨ad, hx', rfl⟩ := hform
   rw [hx']
   exact equal_nil (eqn_map hu ad) op hop2 x _ (hguard _ _ (by simp) (by simp)) rfl rfl
  ·rename_i hu
   have hform : (a.eval x = .nilIface ∧ b = true) ∨ (∃ t' z, a.eval x = .iface t' z) ∧ b = false := by
    generalize a.eval x = v at hv
    unfold nilness at hb
    split at hb <;> simp only [Option.some.injEq, reduceCtorEq] at hb <;> subst hb <;> (try (rename_i h0; simp at h0)) <;> cases hv <;> first | exact .inl ⟨rfl, rfl⟩ | exact .inr ⟨⟨_, _, rfl⟩, rfl⟩
   have hg : (eqGuard op t x (.const .nilIface) (a.eval x) .nilIface).run P w = .ok () w := by
    rcases hform with ⟨h, _⟩ | ⟨⟨t', z, h⟩, _⟩ <;> rw [h] <;> rcases hop2 with rfl | rfl <;> simp [eqGuard]
   have he := eqn_iface (P := P) (w := w) hu _ _ hform
   refine equal_nil he op hop2 x _ hg ?_ ?_ <;> (rcases hform with ⟨h, _⟩ | ⟨⟨t', z, h⟩, _⟩ <;> rw [h] <;> rfl)
 simp only [execOp, hop, Sem.run_bind, key, Result.andThen_ok, Sem.run_pure]
theorem loadc_sound (hE : EnvOk E N) (nm : Names vs (lmap vs ops)) (ho : ops[j]? = some o) (hf : FI N w G st a vs (lmap vs ops)) {t : TypeId} {n : Nat} {x : Operand} {px : PX} (hop : o.op = .load t x) (hn : sizeT P t = some n)
  (hx : cx E vs ops x = some px) {cf : CallF} (hs : hopv cf (.loadc n (isAggT P t) px) st = some (u, st1)) (hk : Goes N w G a st1 u vs ops j o next) : o.wp P a w next Q := by
 simp only [hopv] at hs
 split at hs
 ·rename_i cs ha
  simp only [Option.map_eq_some_iff, Prod.mk.injEq] at hs
  obtain ⟨r, hr, rfl, rfl⟩ := hs
  obtain ⟨r', h1, h2, h3⟩ := load_cptr (P := P) hn (rd_sound hE hx hf ha).1 hr
  exact wp_value nm ho hf (by simp [execOp, hop, h1]) (SR.of_pure h2 h3) hk
 ·simp at hs
theorem nilchk_sound (hE : EnvOk E N) (nm : Names vs (lmap vs ops)) (ho : ops[j]? = some o) (hf : FI N w G st a vs (lmap vs ops)) {x : Operand} {px : PX} (hop : o.op = .nilCheck x)
  (hx : cx E vs ops x = some px) {cf : CallF} (hs : hopv cf (.nilchk px) st = some (u, st1)) (hk : Goes N w G a st1 u vs ops j o next) : o.wp P a w next Q := by
 have run : ∀ ad, a.eval x = .pointer (some ad) → (execOp a.eval o).run P w = .ok (.value (.pointer (some ad))) w := by
  intro ad h
  simp [execOp, hop, h]
 simp only [hopv] at hs
 split at hs
 ·rename_i n off ha
  simp only [Option.some.injEq, Prod.mk.injEq] at hs
  obtain ⟨rfl, rfl⟩ := hs
  obtain ⟨b, hv, hb⟩ := addr_ptr hE hx hf ha
  exact wp_value nm ho hf (run _ hv) (SR.of_pure (.ptr _ _ b hb) rfl) hk
 ·rename_i cs ha
  simp only [Option.some.injEq, Prod.mk.injEq] at hs
  obtain ⟨rfl, rfl⟩ := hs
  rcases addr_sound hE hx hf ha with ⟨_, _, _, _, h, _⟩ | ⟨h, _⟩
  ·simp at h
  ·generalize hv : a.eval x = v at h
   have h' := h
   cases h with
   | cptr b off _ cv _ _ _ => exact wp_value nm ho hf (run _ hv) (SR.of_pure h' rfl) hk
 ·rename_i s g off ha
  simp only [Option.some.injEq, Prod.mk.injEq] at hs
  obtain ⟨rfl, rfl⟩ := hs
  rcases addr_sound hE hx hf ha with ⟨_, _, _, b, h, hv, hb⟩ | ⟨_, h⟩
  ·simp only [PV.lptr.injEq] at h
   obtain ⟨rfl, rfl, rfl⟩ := h
   exact wp_value nm ho hf (run _ hv) (SR.lptr rfl hb) hk
  ·simp [cp] at h
 ·simp at hs
theorem barr_sound (hE : EnvOk E N) (nm : Names vs (lmap vs ops)) (ho : ops[j]? = some o) (hf : FI N w G st a vs (lmap vs ops)) {t e : TypeId} {n size : Nat} {parts : Array (Nat × Operand)} {z : List PV} {ps : List (Nat × Nat × PX)}
  (hop : o.op = .build t parts) (hu : P.underlying t = some (.array n e)) (hn : sizeT P e = some size) (hz : zeroT P t = some z)
  (hc : cParts E vs ops (fun i => some (i * size, size)) parts.toList = some ps) {cf : CallF} (hs : hopv cf (.barr z ps) st = some (u, st1)) (hk : Goes N w G a st1 u vs ops j o next) : o.wp P a w next Q := by
 simp only [hopv, Option.map_eq_some_iff, Option.bind_eq_some_iff, Prod.mk.injEq] at hs
 obtain ⟨rs, ⟨qs, hq, hset⟩, rfl, rfl⟩ := hs
 obtain ⟨i, zv, hi, hzv, _, _, hR, hO⟩ := zeroT_sound (N := N) (w := w) (fix := G.fix) (hp := G.heap) hz
 obtain ⟨ie, d, hie, hsz, _, _⟩ := info_underlying hn
 obtain ⟨ds, h1, h2, h3⟩ := rdParts_sound hE hf hc hq hset hR hO
 refine wp_value nm ho hf (v := .agg ds) ?_ (SR.of_pure (by simpa using h2.agg h3) rfl) hk
 have hb : P.built t (parts.map fun (i, x) => (i, a.eval x)).toList = some ds := by
  simp only [Program.built, hi, hu, hzv, hie, hsz]
  simpa using h1
 simp [execOp, hop, run_build w t _ ds hb]
theorem idxA_sound (hE : EnvOk E N) (nm : Names vs (lmap vs ops)) (ho : ops[j]? = some o) (hf : FI N w G st a vs (lmap vs ops)) {t e : TypeId} {len n : Nat} {x i : Operand} {px pi : PX} (hop : o.op = .index t x i)
  (hu : P.underlying t = some (.array len e)) (hn : sizeT P e = some n) (hx : cx E vs ops x = some px) (hi : cx E vs ops i = some pi) {cf : CallF}
  (hs : hopv cf (.idxA len n (isAggT P e) px pi) st = some (u, st1)) (hk : Goes N w G a st1 u vs ops j o next) : o.wp P a w next Q := by
 have hn0 : n ≠ 0 := by obtain ⟨_, _, _, _, h, _⟩ := info_underlying hn; exact h
 simp only [hopv] at hs
 split at hs
 ·rename_i ps k hps hki
  split at hs
  ·rename_i hk2
   simp only [Option.map_eq_some_iff, Prod.mk.injEq] at hs
   obtain ⟨r, hr, rfl, rfl⟩ := hs
   obtain ⟨cs, hv, hR⟩ := CellsR.of_agg (rd_sound hE hx hf hps).1
   obtain ⟨kk, hik⟩ := rdInt_sound hE hi hf hki
   obtain ⟨h1, h2, h3⟩ := loadFrom_sound hR hr hn0 (sizeT_one hn)
   refine wp_value nm ho hf ?_ (SR.of_pure h2 h3) hk
   have hx : (part e cs (k.toNat * n)).run P w = .ok (if isAggT P e then .agg ((cs.toList.drop (k.toNat * n)).take n).toArray else (cs.toList.drop (k.toNat * n)).headD undef) w := by
    simp only [part, Sem.run_bind, run_isAggT hn, Sem.run_ite, run_sizeT hn, Result.andThen_ok, Sem.run_pure]
    by_cases ha : isAggT P e = true
    ·simp only [ha, if_true]
     congr 2
     apply Array.ext'
     simp
    ·simp only [Bool.not_eq_true] at ha
     have hlt : k.toNat * n < cs.size := by simp at h1; omega
     simp [ha, List.drop_eq_getElem_cons (l := cs.toList) (i := k.toNat * n) (by simpa using hlt), hlt]
   simp [execOp, hop, Instr.index, hik, asIntOf, run_underlying hu, hv, hk2, run_sizeT hn, hx]
  ·simp at hs
 ·simp at hs
end
end PI
set_option maxRecDepth 100000
set_option linter.unusedSimpArgs false
set_option linter.unusedVariables false
namespace PI
open Go
section
variable {E : Env} {N : Nm} {w : World} {G : GS} {st : St} {a : Act} {vs : List Tmp} {ops : List Oper} {P : Program}
variable {o : Oper} {j : Nat} {next : Act → World → Prop} {Q : Exit → Act → World → Prop} {u : PV} {st1 : St}
theorem flat_get {α : Type} (l : List α) : ∀ (n k : Nat), (List.replicate n l).flatten[k]? = if k < n * l.length then l[k % l.length]? else none
 | 0, k => by simp
 | n + 1, k => by
   have ih := flat_get l n (k - l.length)
   have e : (n + 1) * l.length = n * l.length + l.length := Nat.succ_mul _ _
   rw [List.replicate_succ, List.flatten_cons, List.getElem?_append, ih, e]
   by_cases hk : k < l.length
   ·have : k < n * l.length + l.length := by omega
    simp only [hk, this, Nat.mod_eq_of_lt hk, if_true]
   ·have hm : (k - l.length) % l.length = k % l.length := (Nat.mod_eq_sub_mod (by omega)).symm
    by_cases h2 : k - l.length < n * l.length
    ·have : k < n * l.length + l.length := by omega
     simp only [hk, h2, this, if_true, if_false, hm]
    ·have : ¬ k < n * l.length + l.length := by omega
     simp only [hk, h2, this, if_false]
theorem sameO_eval {x y : Operand} (h : sameO x y = true) {k : IntKind} {n : Int} (hx : a.eval x = .int k n) : ∃ k', a.eval y = .int k' n := by
 unfold sameO at h
 split at h
 ·simp at h; subst h; exact ⟨k, hx⟩
 ·simp at h; subst h
  simp only [Act.eval] at hx ⊢
  cases hx
  exact ⟨_, rfl⟩
 ·simp at h
theorem mkarr_sound (hE : EnvOk E N) (nm : Names vs (lmap vs ops)) (ho : ops[j]? = some o) (hf : FI N w G st a vs (lmap vs ops)) {t e : TypeId} {l c : Operand} {px : PX} {size : Nat} {z : List PV} (hop : o.op = .makeSlice t l c)
  (hu : P.underlying t = some (.slice e)) (hn : sizeT P e = some size) (hz : zeroT P e = some z) (hsame : sameO l c = true) (hx : cx E vs ops l = some px) {cf : CallF} (hs : hopv cf (.mkarr size (isAggT P e) (P.bytesOf e) z px) st = some (u, st1)) (hk : Goes N w G a st1 u vs ops j o next) : o.wp P a w next Q := by
 simp only [hopv] at hs
 split at hs
 ·rename_i n hn0
  split at hs
  ·rename_i hc
   obtain ⟨h0, hb, hm⟩ := hc
   simp only [Option.some.injEq, Prod.mk.injEq] at hs
   obtain ⟨rfl, rfl⟩ := hs
   obtain ⟨k, hl⟩ := rdInt_sound hE hx hf hn0
   obtain ⟨k', hcv⟩ := sameO_eval hsame hl
   obtain ⟨i, d, hi, hisz, hs0, hd⟩ := info_underlying hn
   obtain ⟨i2, zv, hi2, hzv, _, hzl, hzR, _⟩ := zeroT_sound (N := N) (w := w) (fix := G.fix) (hp := G.heap) hz
   have : i2 = i := by rw [hi] at hi2; simpa using hi2.symm
   subst this
   subst hisz
   have hzs : zv.cells.size = i2.size := by have := hzR.1; simp at this; omega
   have hby : P.bytesOf e = i2.bytes := by simp [Program.bytesOf, hi]
   rw [hby] at hb
   have hrun := run_make (P := P) w t e i2 zv hu hi hzv k k' n n h0 (Int.le_refl _) hb hm
   refine obj_new (mob := .cells (madeCells zv.cells (n.toNat * i2.size)) e) (v := .slice (some ⟨w.heap.size, 0, none⟩) n.toNat n.toNat) nm ho hf ?_ ?_ (fun G' hG hext => obj_cells hf ?_ ?_ hG hext) hk
   ·simp [execOp, hop, hl, hcv, hrun]
   ·rintro G' rfl
    refine .rowp _ _ _ _ w.heap.size _ (by simp [GS.more]) (Nat.le_refl _) ⟨e, n.toNat * i2.size, ?_, Nat.le_refl _⟩
    simp only [World.shape?, alloc_heap_new, size_madeCells]
   ·intro k c x hc hx
    rw [flat_get] at hx
    have hzlen : z.length = i2.size := by have := hzR.1; simp at this; omega
    rw [hzlen] at hx
    split at hx
    ·rename_i hlt
     have hmod : k % i2.size < i2.size := Nat.mod_lt _ (by omega)
     have hc' : c = zv.cells[k % i2.size]! := by
      simp only [madeCells, Array.getElem?_map, Option.map_eq_some_iff] at hc
      obtain ⟨a', ha, rfl⟩ := hc
      have : a' = k := by
       obtain ⟨h1, h2⟩ := Array.getElem?_eq_some_iff.1 ha
       simpa using h2.symm
      rw [this, hzs]
     have hcz : zv.cells[k % i2.size]? = some c := by
      rw [hc']
      have : k % i2.size < zv.cells.size := by omega
      simp [this]
     refine ⟨hzR.2.2 _ c x (by simpa using hcz) hx, hzR.2.1 x (List.mem_of_getElem? hx), ?_⟩
     rintro es rfl
     have hz' := hz
     unfold zeroT at hz'
     simp only [hi, hzv, Option.bind_eq_some_iff] at hz'
     obtain ⟨cs', hcs, hz'⟩ := hz'
     split at hz'
     ·simp at hz'; subst hz'
      exact constAll_own hcs _ c es (by simpa using hcz) hx
     ·simp at hz'
    ·simp at hx
   ·have hzlen : z.length = i2.size := by have := hzR.1; simp at this; omega
    rw [size_madeCells]
    simp [List.length_flatten, hzlen]
  ·simp at hs
 ·simp at hs
theorem newbld_sound (hE : EnvOk E N) (hP : E.P = P) (nm : Names vs (lmap vs ops)) (ho : ops[j]? = some o) (hf : FI N w G st a vs (lmap vs ops)) {t : TypeId} (hop : o.op = .alloc t) (hb : E.bT = some t) {cf : CallF}
  (hs : hopv cf .newbld st = some (u, st1)) (hk : Goes N w G a st1 u vs ops j o next) : o.wp P a w next Q := by
 simp only [hopv, Option.some.injEq, Prod.mk.injEq] at hs
 obtain ⟨rfl, rfl⟩ := hs
 obtain ⟨h1, i, h2, h3⟩ := hE.bt t hb
 rw [hP] at h2
 refine obj_new (mob := .cells #[.pointer none, .slice none 0 0] t) (v := .pointer (some ⟨w.heap.size, 0, none⟩)) nm ho hf ?_ ?_ (fun G' hG hext => ?_) hk
 ·simp [execOp, hop, Instr.alloc, zeroValue, typeInfo, h2, h3, newVar, newRow, Value.cells]
 ·rintro G' rfl
  exact .ptr _ _ w.heap.size (by simp [GS.more])
 ·subst hG
  refine ⟨?_, .pointer none, .slice none 0 0, by rw [h1]; exact alloc_heap_new, .inl rfl, .inl ⟨rfl, rfl⟩⟩
  intro o h
  have := hf.fixlt _ _ h
  omega
theorem range_sound (hE : EnvOk E N) (nm : Names vs (lmap vs ops)) (ho : ops[j]? = some o) (hf : FI N w G st a vs (lmap vs ops)) {t : TypeId} {x : Operand} {px : PX} (hop : o.op = .range t x)
  (hu : P.underlying t = some .string) (hx : cx E vs ops x = some px) {cf : CallF} (hs : hopv cf (.range px) st = some (u, st1)) (hk : Goes N w G a st1 u vs ops j o next) : o.wp P a w next Q := by
 simp only [hopv] at hs
 split at hs
 ·rename_i s hp
  simp only [Option.some.injEq, Prod.mk.injEq] at hs
  obtain ⟨rfl, rfl⟩ := hs
  have h := (rd_sound hE hx hf hp).1
  generalize hv : a.eval x = v at h
  cases h with
  | str s =>
    refine obj_new (mob := .stringIter s 0) (v := .pointer (some ⟨w.heap.size, 0, none⟩)) nm ho hf ?_ ?_ (fun G' hG hext => ?_) hk
    ·have := run_range_string (P := P) w t s hu
     simp only [execOp, hop, hv, Sem.run_bind, Sem.run_map, this, Result.andThen_ok, Sem.run_pure]
     rfl
    ·rintro G' rfl
     exact .ptr _ _ w.heap.size (by simp [GS.more])
    ·subst hG
     refine ⟨?_, s, alloc_heap_new, rfl⟩
     intro o h
     have := hf.fixlt _ _ h
     omega
 ·simp at hs
theorem obj_turn (nm : Names vs (lmap vs ops)) (ho : ops[j]? = some o) (hf : FI N w G st a vs (lmap vs ops)) {n b : Nat} {ob ob' : PObj} {mob : Obj} {v : Value} (hob : st.heap[n]? = some ob) (hb : G.heap n = some b) (how : G.ow b = some (.hobj n))
  (hnf : ∀ o, ¬ G.fix b o) (hrun : (execOp a.eval o).run P w = .ok (.value v) { w with heap := w.heap.setIfInBounds b mob }) (hnc : w.shape? b = none ∧ loopOf w b = none)
  (hR : ObjR N { w with heap := w.heap.setIfInBounds b mob } G n b ob')
  (hv : SR N { w with heap := w.heap.setIfInBounds b mob } G (keyD (cDst vs o.dst) j) v u)
  (hk : Goes N w G a (hset st n ob') u vs ops j o next) : o.wp P a w next Q := by
 unfold Oper.wp
 rw [hrun]
 let w' : World := { w with heap := w.heap.setIfInBounds b mob }
 have hblt : b < w.heap.size := hf.owlt _ _ how
 have hother : ∀ x, x ≠ b → w'.heap[x]? = w.heap[x]? := fun x hx => by
  simp only [w', Array.getElem?_setIfInBounds]; rw [if_neg (by omega)]
 have hext : Ext w G w' G := by
  refine ⟨rfl, rfl, rfl, by simp [w'], fun x _ hxo => hother x (by rintro rfl; rw [how] at hxo; simp at hxo), ?_, fun _ _ h => .inl h, fun _ h => .inr h, fun _ _ h => h, .one b (fun k _ hk => hother k hk) (fun s hx => by rw [hnc.1] at hx; simp at hx) (fun s hx => by rw [hnc.2] at hx; simp at hx), rfl⟩
  intro x o' hfx
  have hxb : x ≠ b := by rintro rfl; exact hnf _ hfx
  refine ⟨hfx, ?_⟩
  simp only [World.cell?, hother x hxb]
 have hkeep : Keep (fun k => k = .hobj n) w G w' G := by
  refine ⟨?_, fun _ _ h => h⟩
  intro x k hx hnk
  have hxb : x ≠ b := by rintro rfl; rw [how] at hx; simp at hx; exact hnk hx.symm
  exact ⟨hx, hother x hxb, fun _ h => h⟩
 have hf1 : FI N w' G (hset st n ob') a vs (lmap vs ops) := by
  refine ⟨hf.len, fun i t' u' h1 h2 => (hf.var i t' u' h1 h2).keep hext hkeep (by simp) (by simp), fun i t' u' h1 h2 => (hf.loc i t' u' h1 h2).keep hext hkeep (by simp) (by simp), hf.tv, hf.tl, hf.defers, hf.gen, ?_, ?_, ?_, ?_⟩
  ·intro b' k hb'; simpa [w'] using hf.owlt _ _ hb'
  ·intro b' k hb'; simpa [w'] using hf.fixlt _ _ hb'
  ·exact hf.heap.keepBut hext hkeep (fun m k hne => ⟨by simp; omega, by simp⟩) (fun _ => .inr ⟨b, hb, how, hR⟩)
  ·intro m b' h; have := hf.hdom _ _ h; simpa [hset] using this
 exact hk _ w' G (hf1.put nm (cDst_ok ho) hv) hext (put_size _ _ _)
theorem next_sound (hE : EnvOk E N) (nm : Names vs (lmap vs ops)) (ho : ops[j]? = some o) (hf : FI N w G st a vs (lmap vs ops)) {x : Operand} {px : PX} (hop : o.op = .next x true)
  (hx : cx E vs ops x = some px) {cf : CallF} (hs : hopv cf (.next px) st = some (u, st1)) (hk : Goes N w G a st1 u vs ops j o next) : o.wp P a w next Q := by
 simp only [hopv] at hs
 split at hs
 ·rename_i n hp
  have h := (rd_sound hE hx hf hp).1
  split at hs
  ·rename_i s pos hob
   generalize hv : a.eval x = v at h
   cases h with
   | ptr _ _ b hb =>
     rcases hf.heap.1 n _ hob with e | ⟨b', h1, h2, h3, s', h4, h5⟩
     ·simp at e
     have : b' = b := by rw [hb] at h1; simpa using h1.symm
     subst this
     subst h5
     have hsz : s'.data.toList.length = s'.size := Array.length_toList
     have hs' : (⟨s'.data.toList.toArray⟩ : ByteArray) = s' := by cases s'; simp
     rw [hsz, hs'] at hs
     have hblt : b' < w.heap.size := hf.owlt _ _ h2
     split at hs
     ·rename_i hlt
      simp only [Option.some.injEq, Prod.mk.injEq] at hs
      obtain ⟨rfl, rfl⟩ := hs
      refine obj_turn (ob' := .siter s'.data.toList (pos + (Utf8.decode s' pos).2)) (mob := .stringIter s' (pos + (Utf8.decode s' pos).2)) (v := .tuple #[.bool true, goInt pos, .int .i32 (Utf8.decode s' pos).1]) nm ho hf hob hb h2 h3 ?_ (by simp [World.shape?, loopOf, h4]) ⟨h3, s', ?_, rfl⟩ (SR.of_pure ?_ rfl) hk
      ·simp [execOp, hop, hv, Instr.next, getObj, setObj, Sem.run, Result.andThen, h4, hlt, goInt]
      ·simp [hblt]
      ·refine .tuple _ _ rfl ?_
       intro i c p hc hp
       match i with
       | 0 => simp at hc hp; subst hc hp; exact .bool _
       | 1 => simp at hc hp; subst hc hp; exact .int _ _
       | 2 => simp at hc hp; subst hc hp; exact .int _ _
       | n + 3 => simp at hc
     ·rename_i hlt
      simp only [Option.some.injEq, Prod.mk.injEq] at hs
      obtain ⟨rfl, rfl⟩ := hs
      refine wp_value (v := .tuple #[.bool false]) nm ho hf ?_ (SR.of_pure ?_ rfl) hk
      ·simp [execOp, hop, hv, Instr.next, getObj, Sem.run, Result.andThen, h4, hlt]
      ·refine .tuple _ _ rfl ?_
       intro i c p hc hp
       match i with
       | 0 => simp at hc hp; subst hc hp; exact .bool _
       | n + 1 => simp at hc
  ·simp at hs
 ·simp at hs
theorem s2b_sound (hE : EnvOk E N) (nm : Names vs (lmap vs ops)) (ho : ops[j]? = some o) (hf : FI N w G st a vs (lmap vs ops)) {src dst e : TypeId} {x : Operand} {px : PX} (hop : o.op = .convert src dst x) (hdst : cDst vs o.dst ≠ .n)
  (hs1 : P.underlying src = some .string) (hd : P.underlying dst = some (.slice e)) (he : P.underlying e = some (.int .u8)) (hx : cx E vs ops x = some px) {cf : CallF} (hs : opv cf (.s2b px) st = some (u, st1)) (hk : Goes N w G a st1 u vs ops j o next) : o.wp P a w next Q := by
 simp only [opv] at hs
 split at hs
 ·rename_i s hp
  split at hs
  ·rename_i hlen
   simp only [Option.some.injEq, Prod.mk.injEq] at hs
   obtain ⟨rfl, rfl⟩ := hs
   have h := (rd_sound hE hx hf hp).1
   generalize hv : a.eval x = v at h
   cases h with
   | str s =>
     have hsz : s.data.toList.length = s.size := Array.length_toList
     have hrun := Lib.run_convert_string_bytes (P := P) w src dst e s hs1 hd he
     unfold Oper.wp
     have hrun' : (execOp a.eval o).run P w = .ok (.value (.slice (some ⟨w.heap.size, 0, none⟩) s.size (grownCap w s.size 0 e))) (Lib.bytesWorld w e s) := by
      simp [execOp, hop, hv, hrun]
     rw [hrun']
     have hnc : s.size ≤ grownCap w s.size 0 e := grownCap_ge w s.size 0 e
     let G' : GS := { G with fix := fun b o => G.fix b o ∨ (b = w.heap.size ∧ o < s.size), ow := fun b => if b = w.heap.size then some (keyD (cDst vs o.dst) j) else G.ow b }
     have hsize := Lib.bytesWorld_size w e s
     have hext : Ext w G (Lib.bytesWorld w e s) G' := by
      refine ⟨?_, ?_, ?_, by omega, fun b hb _ => Lib.bytesWorld_at_old w e s b hb, fun b o h => ⟨.inl h, Lib.bytesWorld_old w e s ⟨b, o, none⟩ (hf.fixlt _ _ h)⟩, ?_, ?_, fun _ _ h => h, .same fun k hk => Lib.bytesWorld_at_old w e s k hk, rfl⟩
      ·simp [Lib.bytesWorld, World.freeze, World.alloc, World.drew, -World.alloc_eq, -World.drew_eq]
      ·simp [Lib.bytesWorld, World.freeze, World.alloc, World.drew, -World.alloc_eq, -World.drew_eq]
      ·simp [Lib.bytesWorld, World.freeze, World.alloc, World.drew, -World.alloc_eq, -World.drew_eq]
      ·rintro b o (h | h)
       ·exact .inl h
       ·exact .inr (.inl (by omega))
      ·intro b hb
       simp only [G'] at hb
       split at hb
       ·exact .inl (by omega)
       ·exact .inr hb
     have hkeep : Keep (fun k => k = keyD (cDst vs o.dst) j) w G (Lib.bytesWorld w e s) G' := by
      refine ⟨?_, fun _ _ h => h⟩
      intro b k hb _
      have hlt := hf.owlt _ _ hb
      refine ⟨?_, Lib.bytesWorld_at_old w e s b hlt, ?_⟩
      ·simp only [G']; rw [if_neg (by omega)]; exact hb
      ·rintro o (h | h)
       ·exact h
       ·omega
     have hR := ofBytes_R (N := N) (w := Lib.bytesWorld w e s) G'.fix G'.heap s
     have hl : (ofBytes s.data.toList).length = s.size := by rw [ofBytes_len]; exact hsz
     have how' : ∀ b k, G'.ow b = some k → b < (Lib.bytesWorld w e s).heap.size := by
      intro b k hb
      simp only [G'] at hb
      split at hb
      ·omega
      ·have := hf.owlt _ _ hb; omega
     have hfx' : ∀ b o, G'.fix b o → b < (Lib.bytesWorld w e s).heap.size := by
      rintro b o (h | h)
      ·have := hf.fixlt _ _ h; omega
      ·omega
     have hvr : ∀ own, VR N (Lib.bytesWorld w e s) G'.fix G'.heap (.slice (some ⟨w.heap.size, 0, none⟩) s.size (grownCap w s.size 0 e)) (.list own (ofBytes s.data.toList)) := by
      intro own
      have hm := list_mk (own := own) (b := w.heap.size) (off := 0) (cap := grownCap w s.size 0 e) hR (by rw [hl]; exact hnc) ?_
      ·rw [hl] at hm; exact hm
      ·intro k u' hu
       have hk : k < s.size := by have := (List.getElem?_eq_some_iff.1 hu).1; rw [byteCells_length] at this; exact this
       rw [Nat.zero_add]
       refine ⟨?_, .inr ⟨rfl, hk⟩⟩
       rw [Lib.bytesWorld_cell w e s k hk]
       simp only [byteCells, List.getElem?_map, Option.map_eq_some_iff] at hu
       obtain ⟨b, hb, rfl⟩ := hu
       simp [List.getD, hb]
     refine hk _ _ G' (hf.extDst nm (cDst_ok ho) hdst hext hkeep (fun g b h => hf.gen g b h) how' hfx' rfl ?_) hext (put_size _ _ _)
     cases he0 : s.data.toList.isEmpty with
     | true => exact SR.of_pure (hvr false) rfl
     | false =>
       refine ⟨hvr true, ?_⟩
       have h0 : 0 < s.size := by
        rw [← hsz]
        cases hx : s.data.toList with
        | nil => rw [hx] at he0; simp at he0
        | cons => simp
       refine .inr ⟨by simp [G'], 1, Lib.bytesCells w e s, e, hR.sz, ⟨_, Lib.bytesWorld_at_new w e s, fun o ho h => by simp at h; omega⟩, ?_, h0, ?_⟩
       ·have : s.data.size = s.size := rfl
        simp only [Lib.bytesCells, Array.size_append, Array.size_map, Array.size_replicate]
        omega
       ·rintro o' ho' (h | h)
        ·have := hf.fixlt _ _ h; simp at this
        ·simp at ho'; omega
  ·simp at hs
 ·simp at hs
theorem flat_cells {size : Nat} : ∀ {xs : List PV}, (∀ e ∈ xs, e.cells.length = size) → (xs.flatMap PV.cells).length = xs.length * size ∧ ∀ (i : Nat) (e : PV), xs[i]? = some e → ∀ k, k < size → (xs.flatMap PV.cells)[i * size + k]? = e.cells[k]?
 | [], _ => by simp
 | x :: xs, h => by
   obtain ⟨h1, h2⟩ := flat_cells (xs := xs) (fun e he => h e (List.mem_cons_of_mem _ he))
   have hx := h x (List.mem_cons_self ..)
   refine ⟨by simp only [List.flatMap_cons, List.length_append, h1, hx, List.length_cons, Nat.add_mul, Nat.one_mul]; omega, ?_⟩
   intro i e he k hk
   rw [List.flatMap_cons]
   cases i with
   | zero =>
     simp at he; subst he
     rw [Nat.zero_mul, Nat.zero_add, List.getElem?_append_left (by omega)]
   | succ i =>
     rw [Nat.add_mul, Nat.one_mul, List.getElem?_append_right (by omega), hx]
     have := h2 i e (by simpa using he) k hk
     rw [show i * size + size + k - size = i * size + k by omega]
     exact this
theorem ListR.flats {fix : Nat → Nat → Prop} {hp : Nat → Option Nat} {size : Nat} {news : List Value} {xs : List PV} (h : ListR N w fix hp size news xs) (hs : size ≠ 0) :
  news.length = ((xs.flatMap PV.cells).map dem).length ∧ ∀ (k : Nat) (c : Value) (x : PV), news[k]? = some c → ((xs.flatMap PV.cells).map dem)[k]? = some x → VR N w fix hp c x ∧ x.flat = true ∧ ∀ es, x ≠ .list true es := by
 obtain ⟨h1, h2⟩ := flat_cells h.sz
 refine ⟨by rw [List.length_map, h1, h.len], ?_⟩
 intro k c x hc hx
 simp only [List.getElem?_map, Option.map_eq_some_iff] at hx
 obtain ⟨y, hy, rfl⟩ := hx
 have hk : k < xs.length * size := by rw [← h1]; exact (List.getElem?_eq_some_iff.1 hy).1
 have hi : k / size < xs.length := by rw [Nat.div_lt_iff_lt_mul (by omega)]; exact hk
 have hm : k % size < size := Nat.mod_lt _ (by omega)
 have he : k / size * size + k % size = k := by rw [Nat.mul_comm]; exact Nat.div_add_mod k size
 have h3 := h2 (k / size) xs[k / size] (List.getElem?_eq_getElem hi) (k % size) hm
 rw [he, hy] at h3
 refine ⟨(h.vr (k / size) _ (List.getElem?_eq_getElem hi) (k % size) c y (by rw [he]; exact hc) h3.symm).dem, ?_, ?_⟩
 ·rw [flat_dem]
  exact h.flat _ (List.getElem_mem hi) y (List.mem_of_getElem? h3.symm)
 ·intro es e; cases y <;> simp [dem] at e
theorem dem_notOwn (y : PV) (es : List PV) : dem y ≠ .list true es := by intro e; cases y <;> simp [dem] at e
theorem rowEls_get {sz : Nat} {agg : Bool} {cs : List PV} : ∀ {n off : Nat} {es : List PV}, rowEls sz agg cs n off = some es → es.length = n ∧ ∀ (i : Nat) (e : PV), es[i]? = some e → loadFrom sz agg cs (off + i * sz) = some e
 | 0, off, es, h => by simp [rowEls] at h; subst h; simp
 | n + 1, off, es, h => by
   simp only [rowEls, Option.bind_eq_some_iff, Option.map_eq_some_iff] at h
   obtain ⟨e, h1, es', h2, rfl⟩ := h
   obtain ⟨k1, k2⟩ := rowEls_get h2
   refine ⟨by simp [k1], ?_⟩
   intro i x hx
   cases i with
   | zero => simp at hx; subst hx; simpa using h1
   | succ i =>
     have := k2 i x (by simpa using hx)
     rw [Nat.add_mul]
     simpa [Nat.add_assoc, Nat.add_comm, Nat.add_left_comm] using this
theorem rowEls_cells {sz len : Nat} {agg : Bool} {cs es : List PV} (hfl : ∀ (k : Nat) (y : PV), cs[k]? = some y → y.flat = true) (hsz : agg = true ∨ sz = 1) (he : rowEls sz agg cs len 0 = some es) :
  es.length = len ∧ ∀ (i : Nat) (e : PV), es[i]? = some e → i * sz + sz ≤ cs.length ∧ e.cells.length = sz ∧ ∀ (j : Nat) (x : PV), e.cells[j]? = some x → ∃ y, cs[i * sz + j]? = some y ∧ x = dem y ∧ j < sz := by
 obtain ⟨e1, e2⟩ := rowEls_get he
 refine ⟨e1, ?_⟩
 intro i e hi
 have := e2 i e hi
 rw [Nat.zero_add] at this
 unfold loadFrom at this
 split at this
 ·split at this
  ·rename_i hle
   simp only [Option.some.injEq] at this; subst this
   refine ⟨hle, by simp [PV.cells]; omega, ?_⟩
   intro j x hx
   simp only [PV.cells, List.getElem?_map, Option.map_eq_some_iff] at hx
   obtain ⟨y, hy, rfl⟩ := hx
   rw [List.getElem?_take] at hy
   split at hy
   ·rw [List.getElem?_drop] at hy
    exact ⟨y, hy, rfl, by assumption⟩
   ·simp at hy
  ·simp at this
 ·rename_i hagg
  have h1 : sz = 1 := by rcases hsz with h | h; exact absurd h (by simpa using hagg); exact h
  subst h1
  split at this
  ·rename_i y hy
   have hlt : i * 1 < cs.length := (List.getElem?_eq_some_iff.1 hy).1
   have hfl := hfl _ y hy
   have hcp : e = dem y ∧ y.cells = [y] := by
    cases y <;> simp_all [cp, dem, PV.cells, PV.flat]
   obtain ⟨rfl, _⟩ := hcp
   have hdc : (dem y).cells = [dem y] := by cases y <;> simp_all [dem, PV.cells, PV.flat]
   refine ⟨by omega, by rw [hdc]; rfl, ?_⟩
   intro j x hx
   rw [hdc] at hx
   cases j with
   | zero => simp at hx; subst hx; exact ⟨y, hy, rfl, by omega⟩
   | succ j => simp at hx
  ·simp at this
theorem none_app {ts tx e ty : TypeId} {size : Nat} {s x : Operand} {base : Option Addr} (hv : a.eval s = .slice base 0 0) (hsrc : Src P size tx (a.eval x) 0 [] w) (hts : P.underlying ts = some (.slice e)) {i : TypeInfo} (hi : P.info? e = some i) (hsz : i.size = size) :
  (Builtin.append_ #[ts, tx] ty #[a.eval s, a.eval x]).run P w = .ok (.slice base 0 0) w := by
 subst hsz
 rw [hv]
 rcases hsrc.kind with ⟨e'', hk'⟩ | hk' <;> cases base <;>
  simp [Builtin.append_, run_underlying hts, run_underlying hk', Go.sizeOf, typeInfo, hi, hsrc.len, hsrc.cells, storeCells]
theorem happ_new (nm : Names vs (lmap vs ops)) (ho : ops[j]? = some o) (hf : FI N w G st a vs (lmap vs ops)) {heap1 : List PObj} (hh1 : HR N w G heap1) (hlen1 : heap1.length = st.heap.length) {v : Value} {CS : Array Value} {e : TypeId} {ps : List PV} {sz len cap : Nat} {agg : Bool}
  (hrun : (execOp a.eval o).run P w = .ok (.value (.slice (some ⟨w.heap.size, 0, none⟩) len cap)) (w.drew.alloc (.cells CS e))) (hcap : len ≤ cap) (hCS : CS.size = cap * sz) (hps : ps.length ≤ CS.size)
  (hR : ∀ (k : Nat) (c : Value) (x : PV), CS[k]? = some c → ps[k]? = some x → VR N w G.fix G.heap c x ∧ x.flat = true ∧ ∀ es, x ≠ .list true es)
  (hk : Goes N w G a { st with heap := heap1 ++ [.cells ps] } (.rowp st.heap.length sz agg len) vs ops j o next) : o.wp P a w next Q := by
 unfold Oper.wp
 rw [hrun]
 let w' : World := w.drew.alloc (.cells CS e)
 let G' : GS := G.more w.heap.size st.heap.length
 have hext : Ext w G w' G' := by
  refine ⟨rfl, rfl, rfl, by simp [w'], fun b hb _ => alloc_heap_old (w := w.drew) hb, fun b o h => ⟨h, alloc_cell_old (w := w.drew) (hf.fixlt _ _ h)⟩, fun _ _ h => .inl h, ?_, ?_, .same fun k hk => alloc_heap_old (w := w.drew) hk, rfl⟩
  ·intro b hb
   by_cases hlt : b < w.heap.size
   ·refine .inr ?_
    simp only [G', GS.more] at hb
    rw [if_neg (by omega)] at hb
    exact hb
   ·exact .inl (by omega)
  ·intro n b h
   have := hf.hdom _ _ h
   simp only [G', GS.more]
   rw [if_neg (by omega)]; exact h
 have hkeep : Keep (fun _ => False) w G w' G' := by
  refine ⟨?_, fun _ _ h => h⟩
  intro b k hb _
  have hlt := hf.owlt _ _ hb
  refine ⟨?_, alloc_heap_old (w := w.drew) hlt, fun _ h => h⟩
  simp only [G', GS.more]
  rw [if_neg (by omega)]; exact hb
 have hobj : ObjR N w' G' st.heap.length w.heap.size (.cells ps) := by
  refine ⟨fun o h => by have := hf.fixlt _ _ h; omega, CS, e, alloc_heap_new (w := w.drew), hps, ?_⟩
  intro k c x hc hx
  obtain ⟨h1, h2, h3⟩ := hR k c x hc hx
  refine ⟨h1.ext hext, h2, ?_⟩
  split
  ·exact absurd rfl (h3 _)
  ·trivial
 have hf1 : FI N w' G' { st with heap := heap1 ++ [.cells ps] } a vs (lmap vs ops) := by
  refine ⟨hf.len, fun i t u h1 h2 => (hf.var i t u h1 h2).keep hext hkeep (fun h => h) (fun _ _ _ h => h), fun j t u h1 h2 => (hf.loc j t u h1 h2).keep hext hkeep (fun h => h) (fun _ _ _ h => h), hf.tv, hf.tl, (hf.defers.trans hext.df.symm), hf.gen, ?_, ?_, ?_, ?_⟩
  ·intro b k hb
   simp only [G', GS.more] at hb
   split at hb
   ·simp [w']; omega
   ·have := hf.owlt _ _ hb; simp [w']; omega
  ·intro b o h
   have := hf.fixlt _ _ h; simp [w']; omega
  ·exact hh1.push hext hkeep (fun _ _ _ => ⟨fun h => h, fun h => h⟩) (.inr ⟨w.heap.size, by simp [G', GS.more, hlen1], by simp [G', GS.more, hlen1], by rw [hlen1]; exact hobj⟩)
  ·intro n b h
   simp only [G', GS.more] at h
   split at h
   ·simp; omega
   ·have := hf.hdom _ _ h; simp; omega
 refine hk _ w' G' (hf1.put nm (cDst_ok ho) (SR.of_pure (.rowp _ _ _ _ w.heap.size cap (by simp [G', GS.more]) hcap ⟨e, cap * sz, ?_, Nat.le_refl _⟩) rfl)) hext (put_size _ _ _)
 have h1 : w'.heap[w.heap.size]? = some (.cells CS e) := alloc_heap_new (w := w.drew)
 simp only [World.shape?, h1, hCS]
theorem happ_sound (hE : EnvOk E N) (nm : Names vs (lmap vs ops)) (ho : ops[j]? = some o) (hf : FI N w G st a vs (lmap vs ops)) {ts tx e e' : TypeId} {size : Nat} {z : List PV} {s x : Operand} {ps px : PX}
  (hop : o.op = .call { callee := .builtin .append, args := #[s, x], argTypes := #[ts, tx] }) (hts : P.underlying ts = some (.slice e)) (htx : P.underlying tx = some (.slice e')) (hn : sizeT P e = some size) (hz : zeroT P e = some z)
  (hs' : cx E vs ops s = some ps) (hx : cx E vs ops x = some px) {cf : CallF} (hs : hopv cf (.happ size (isAggT P e) (P.bytesOf e) ps px) st = some (u, st1)) (hk : Goes N w G a st1 u vs ops j o next) : o.wp P a w next Q := by
 obtain ⟨i, d, hi, hisz, hs0, hd⟩ := info_underlying hn
 obtain ⟨i2, zv, hi2, hzv, _, hzl, hzR, _⟩ := zeroT_sound (N := N) (w := w) (fix := G.fix) (hp := G.heap) hz
 have : i2 = i := by rw [hi] at hi2; simpa using hi2.symm
 subst this
 subst hisz
 have hzs : zv.cells.size = i2.size := by have := hzR.1; simp at this; omega
 have hby : P.bytesOf e = i2.bytes := by simp [Program.bytesOf, hi]
 have hop' : ∀ v w', (Builtin.append_ #[ts, tx] o.type #[a.eval s, a.eval x]).run P w = .ok v w' → (execOp a.eval o).run P w = .ok (.value v) w' := by
  intro v w' hr
  simp [execOp, hop, resolve, invoke, builtin, hr]
 have src : ∀ {xs : List PV}, elsOf st px = some xs → headOk i2.size xs = true → ∃ news, ListR N w G.fix G.heap i2.size news xs ∧ Src P i2.size tx (a.eval x) xs.length news w := by
  intro xs hro hh
  unfold elsOf at hro
  split at hro
  ·rename_i n sz agg len hrd
   split at hro
   ·rename_i hag
    simp only [Option.bind_eq_some_iff] at hro
    obtain ⟨cs, hg, hels⟩ := hro
    have hvx := (rd_sound hE hx hf hrd).1
    generalize hv : a.eval x = v at hvx
    cases hvx with
    | rowp _ _ _ _ b cap hb hcap hsh =>
      obtain ⟨ho1, ho2, cv, T, hh', hl, hcr⟩ := obj_open hf hg hb
      have hfl : ∀ (k : Nat) (y : PV), cs[k]? = some y → y.flat = true := fun k y hy => by
       have hlt : k < cv.size := by have := (List.getElem?_eq_some_iff.1 hy).1; omega
       exact (hcr k cv[k] y (by simp [hlt]) hy).2.1
      obtain ⟨e1, e2⟩ := rowEls_cells hfl hag hels
      by_cases hx0 : xs = []
      ·subst hx0
       simp only [List.length_nil] at e1
       subst e1
       exact ⟨[], ⟨by simp, by simp, by simp, by simp⟩, Src.ofSlice w htx ⟨b, 0, none⟩ 0 cap [] (by simp) (by simp) (by simp)⟩
      ·have hsz : sz = i2.size := by
        cases xs with
        | nil => exact absurd rfl hx0
        | cons y ys =>
          have h1 := (e2 0 y rfl).2.1
          simp [headOk] at hh
          omega
       subst hsz
       have hpos : 0 < xs.length := List.length_pos_iff.2 hx0
       have hlast := (e2 (xs.length - 1) (xs[xs.length - 1]'(by omega)) (List.getElem?_eq_getElem (by omega))).1
       have hend : xs.length * i2.size ≤ cs.length := by
        have : xs.length = (xs.length - 1) + 1 := by omega
        rw [this, Nat.add_mul, Nat.one_mul]; exact hlast
       let news := cv.toList.take (xs.length * i2.size)
       have hnl : news.length = xs.length * i2.size := by simp only [news, List.length_take, Array.length_toList]; omega
       have hng : ∀ (k : Nat) (u : Value), news[k]? = some u → cv[k]? = some u := by
        intro k u hu
        simp only [news, List.getElem?_take] at hu
        split at hu
        ·simpa using hu
        ·simp at hu
       have hL : ListR N w G.fix G.heap i2.size news xs := by
        refine ⟨hnl, ?_, ?_, ?_⟩
        ·intro e he
         obtain ⟨i, hi⟩ := List.mem_iff_getElem?.1 he
         exact (e2 i e hi).2.1
        ·intro e he y hy
         obtain ⟨i, hi⟩ := List.mem_iff_getElem?.1 he
         obtain ⟨j, hj⟩ := List.mem_iff_getElem?.1 hy
         obtain ⟨z, hz, rfl, _⟩ := (e2 i e hi).2.2 j y hj
         rw [flat_dem]; exact hfl _ z hz
        ·intro i e hi k c y hc hy
         obtain ⟨z, hz, rfl, _⟩ := (e2 i e hi).2.2 k y hy
         exact (hcr _ c z (hng _ _ hc) hz).1.dem
       refine ⟨news, hL, ?_⟩
       rw [← e1]
       exact Src.ofSlice w htx ⟨b, 0, none⟩ xs.length cap news hnl (fun j u hu => by
        rw [addr_add]
        have := hng j u hu
        simp only [World.cell?, hh', Nat.zero_add]
        simpa using this) (hL.one hs0)
   ·simp at hro
  rotate_left
  ·simp at hro
  rename_i p0 _ hrd
  have hrow := hro
  clear hro
  have hvx := (rd_sound hE hx hf hrd).1.row hrow
  obtain ⟨news, hRx, hcx⟩ := list_cells hvx hh
  refine ⟨news, hRx, ?_⟩
  rcases hcx with ⟨h1, h2, h3⟩ | ⟨ad, cap, h1, h2, h3⟩ | ⟨b, off, cap, h1, h2, h3⟩
  ·rw [h1, h2, h3]; exact Src.ofNil w htx 0
  ·rw [h1, h2, h3]; exact Src.ofSlice w htx ad 0 cap [] (by simp) (by simp) (by simp)
  ·rw [h1]
   exact Src.ofSlice w htx ⟨b, off, none⟩ xs.length cap news hRx.len (fun j u hu => by rw [addr_add]; exact (h3 j u hu).1) (hRx.one hs0)
 have grow : ∀ {heap1 : List PObj} {xs oldps : List PV} {news olds : List Value} {base : Option Addr} {len cap : Nat}, HR N w G heap1 → heap1.length = st.heap.length → ListR N w G.fix G.heap i2.size news xs → Src P i2.size tx (a.eval x) xs.length news w → a.eval s = .slice base len cap →
   (Builtin.firstCells i2.size len (.slice base len cap)).run P w.drew = .ok olds.toArray w.drew → olds.length = len * i2.size → oldps.length = olds.length → (∀ (k : Nat) (c : Value) (y : PV), olds[k]? = some c → oldps[k]? = some y → VR N w G.fix G.heap c y ∧ y.flat = true ∧ ∀ es, y ≠ .list true es) →
   cap < len + xs.length → len + xs.length ≤ 2147483648 → i2.bytes ≤ 16384 →
   Goes N w G a { st with heap := heap1 ++ [.cells (oldps ++ (xs.flatMap PV.cells).map dem)] } (.rowp st.heap.length i2.size (isAggT P e) (len + xs.length)) vs ops j o next → o.wp P a w next Q := by
  intro heap1 xs oldps news olds base len cap hh1 hl1 hRx hsrc hv hold hol hop1 hoR hcap hb1 hb2 hk
  have hbytes : (len + xs.length) * i2.bytes ≤ 140737488355328 := Nat.le_trans (Nat.mul_le_mul hb1 hb2) (by decide)
  have hrun := run_append_grow_src (P := P) w ts tx o.type e i2 zv hts hi hzv base len cap olds hold (a.eval x) xs.length news hsrc hcap (by omega) (growslice_fits hcap hbytes)
  rw [← hv] at hrun
  obtain ⟨hfl, hfR⟩ := hRx.flats hs0
  have hnc := grownCap_ge w (len + xs.length) cap e
  refine happ_new (v := undef) (sz := i2.size) (cap := grownCap w (len + xs.length) cap e) nm ho hf hh1 hl1 (hop' _ _ hrun) hnc ?_ ?_ ?_ hk
  ·simp only [Array.size_append, List.size_toArray, size_zeroCells, hzs, hol, hRx.len, List.length_append]
   rw [Nat.sub_mul, Nat.add_mul]
   have : (len + xs.length) * i2.size ≤ grownCap w (len + xs.length) cap e * i2.size := Nat.mul_le_mul_right _ hnc
   rw [Nat.add_mul] at this
   omega
  ·simp only [Array.size_append, List.size_toArray, List.length_append, hop1]
   omega
  ·intro k c y hc hy
   by_cases hk1 : k < olds.length
   ·rw [List.getElem?_append_left (by omega)] at hy
    rw [Array.getElem?_append_left (by simp; omega)] at hc
    simp only [List.getElem?_toArray] at hc
    rw [List.getElem?_append_left hk1] at hc
    exact hoR k c y hc hy
   ·rw [List.getElem?_append_right (by omega)] at hy
    have hlt : k - olds.length < news.length := by
     rw [hfl, ← hop1]; exact (List.getElem?_eq_some_iff.1 hy).1
    rw [Array.getElem?_append_left (by simp; omega)] at hc
    simp only [List.getElem?_toArray] at hc
    rw [List.getElem?_append_right (by omega)] at hc
    rw [hop1] at hy
    exact hfR _ c y hc hy
 simp only [hopv] at hs
 rw [hby] at hs
 split at hs
 ·rename_i xs n sz ag len hro hraw
  split at hs
  ·rename_i cs hob
   split at hs
   ·rename_i hc
    obtain ⟨rfl, rfl, hcl, hh2, hb1, hb2⟩ := hc
    simp only [Option.some.injEq, Prod.mk.injEq] at hs
    obtain ⟨rfl, rfl⟩ := hs
    obtain ⟨news, hRx, hsrc⟩ := src hro hh2
    have hvs := ((raw_sound hE hs' hf hraw).read (r := .rowp n i2.size (isAggT P e) len) rfl).1
    generalize hv : a.eval s = v at hvs
    cases hvs with
    | rowp _ _ _ _ b cap hb hcap hsh =>
      obtain ⟨T', m, hsh1, hsh2⟩ := hsh
      obtain ⟨ho1, ho2, cv, T, hh, hl, hcr⟩ := obj_open hf (show hget st n = some cs by simp [hget, hob]) hb
      have hm : m = cv.size := by simp only [World.shape?, hh, Option.some.injEq, Prod.mk.injEq] at hsh1; exact hsh1.2.symm
      subst hm
      have hcl0 := hcl
      obtain ⟨O, hO⟩ : ∃ O, (cs.take (len * i2.size)).map dem = O := ⟨_, rfl⟩
      rw [hO] at hk
      have hcl : O.length = len * i2.size := by rw [← hO]; simp; omega
      have holdR : ∀ (k : Nat) (c : Value) (y : PV), (cv.toList.take (len * i2.size))[k]? = some c → O[k]? = some y → VR N w G.fix G.heap c y ∧ y.flat = true ∧ ∀ es, y ≠ .list true es := by
       intro k c y hc hy
       rw [← hO] at hy
       simp only [List.getElem?_map, Option.map_eq_some_iff] at hy
       obtain ⟨y0, hy0, rfl⟩ := hy
       have hy0 : cs[k]? = some y0 := by
        rw [List.getElem?_take] at hy0
        split at hy0
        ·exact hy0
        ·simp at hy0
       rw [List.getElem?_take] at hc
       split at hc
       ·have := hcr k c y0 (by simpa using hc) hy0
        exact ⟨this.1.dem, by rw [flat_dem]; exact this.2.1, dem_notOwn y0⟩
       ·simp at hc
      have hol : (cv.toList.take (len * i2.size)).length = len * i2.size := by simp; omega
      have hcells : ∀ (k : Nat) (u : Value), (cv.toList.take (len * i2.size))[k]? = some u → w.cell? ⟨b, 0 + k, none⟩ = some u := by
       intro k u hu
       rw [List.getElem?_take] at hu
       split at hu
       ·simp only [World.cell?, hh, Nat.zero_add]; simpa using hu
       ·simp at hu
      by_cases hgrow : cap < len + xs.length
      ·refine grow (heap1 := st.heap.set n .gone) ?_ (by simp) hRx hsrc hv (olds := cv.toList.take (len * i2.size)) ?_ hol (by rw [hcl, hol]) holdR hgrow hb1 hb2 hk
       ·exact hf.heap.keepBut (K := fun _ => False) (Ext.refl _ _) ⟨fun _ _ h _ => ⟨h, rfl, fun _ h => h⟩, fun _ _ h => h⟩ (fun _ _ _ => ⟨fun h => h, fun h => h⟩) (fun _ => .inl rfl)
       ·exact run_firstCells_some w.drew _ _ _ _ _ _ hol (fun k u hu => by rw [addr_add]; exact hcells k u hu)
      ·
       have hle : len + xs.length ≤ cap := by omega
       obtain ⟨hfl, hfR⟩ := hRx.flats hs0
       have hfit : len * i2.size + news.length ≤ cv.size := by
        rw [hRx.len]
        have : (len + xs.length) * i2.size ≤ cap * i2.size := Nat.mul_le_mul_right _ hle
        rw [Nat.add_mul] at this; omega
       let NR : Array Value := (cv.toList.take (len * i2.size) ++ news ++ cv.toList.drop (len * i2.size + news.length)).toArray
       have hNRs : NR.size = cv.size := by simp only [NR, List.size_toArray, List.length_append, List.length_take, List.length_drop, Array.length_toList]; omega
       have hrun : (Builtin.append_ #[ts, tx] o.type #[a.eval s, a.eval x]).run P w = .ok (.slice (some ⟨b, 0, none⟩) (len + xs.length) cap) (w.setRow b NR) := by
        have hst := run_storeCells_live P b (len * i2.size) T (0, 0) news 0 cv w hh (fun o _ h => by simp at h) (by simpa using hfit) (hRx.one hs0)
        simp only [Nat.add_zero] at hst
        rw [hv]
        rcases hsrc.kind with ⟨e'', hk'⟩ | hk' <;>
         simp [Builtin.append_, run_underlying hts, run_underlying hk', Go.sizeOf, typeInfo, hi, hsrc.len, hle, hsrc.cells, addr_add, hst, NR]
       have hblt : b < w.heap.size := hf.owlt _ _ ho1
       have hother : ∀ x, x ≠ b → (w.setRow b NR).heap[x]? = w.heap[x]? := fun x hx => setRow_other w b x _ hx
       let G' : GS := { G with heap := fun m => if m = st.heap.length then some b else G.heap m, ow := fun x => if x = b then some (.hobj st.heap.length) else G.ow x }
       have hext : Ext w G (w.setRow b NR) G' := by
        refine ⟨rfl, rfl, rfl, by simp [World.setRow], ?_, ?_, fun _ _ h => .inl h, ?_, ?_, shape_setRow hh _ hNRs, rfl⟩
        ·intro y _ hyo
         exact hother y (by rintro rfl; rw [ho1] at hyo; simp at hyo)
        ·intro y o' hfx
         have hyb : y ≠ b := by rintro rfl; exact ho2 _ hfx
         exact ⟨hfx, by simp only [World.cell?, hother y hyb]⟩
        ·intro y hy
         simp only [G'] at hy
         split at hy
         ·rename_i hyb; exact .inr (by rw [hyb, ho1]; simp)
         ·exact .inr hy
        ·intro m y hy
         have := hf.hdom _ _ hy
         simp only [G']
         rw [if_neg (by omega)]; exact hy
       have hkeep : Keep (fun k => k = .hobj n) w G (w.setRow b NR) G' := by
        refine ⟨?_, fun _ _ h => h⟩
        intro y k hy hnk
        have hyb : y ≠ b := by rintro rfl; rw [ho1] at hy; simp at hy; exact hnk hy.symm
        refine ⟨?_, hother y hyb, fun _ h => h⟩
        simp only [G']; rw [if_neg hyb]; exact hy
       have hnlt : n < st.heap.length := (List.getElem?_eq_some_iff.1 hob).1
       have hheap : HR N (w.setRow b NR) G' (st.heap.set n .gone ++ [.cells (O ++ (xs.flatMap PV.cells).map dem)]) := by
        refine ⟨?_, hf.heap.2.ext hext⟩
        intro m ob hm
        by_cases hml : m < (st.heap.set n .gone).length
        ·rw [List.getElem?_append_left hml, List.getElem?_set] at hm
         split at hm
         ·exact .inl (by simpa [hnlt] using hm.symm)
         ·rename_i hne
          rcases hf.heap.1 m ob hm with rfl | ⟨y, h1, h2, h3⟩
          ·exact .inl rfl
          ·exact .inr ⟨y, hext.heap _ _ h1, (hkeep.1 _ _ h2 (by simp; omega)).1, h3.keep h2 hext hkeep (by simp; omega) (by simp)⟩
        ·rw [List.getElem?_append_right (by omega)] at hm
         simp only [List.length_set] at hm hml
         have hm0 : m - st.heap.length = 0 := by
          cases hx : m - st.heap.length with
          | zero => rfl
          | succ k => rw [hx] at hm; simp at hm
         rw [hm0] at hm
         simp at hm
         subst hm
         have hm' : m = st.heap.length := by omega
         subst hm'
         refine .inr ⟨b, by simp [G'], by simp [G'], fun o' h => ho2 o' h, NR, T, setRow_heap w b cv NR T (0, 0) hh, ?_, ?_⟩
         ·simp only [List.length_append]
          rw [← hfl, hcl, hNRs]; exact hfit
         ·intro k c y hc hy
          have hfin : VR N w G.fix G.heap c y ∧ y.flat = true ∧ ∀ es, y ≠ .list true es := by
           simp only [NR, List.getElem?_toArray, List.append_assoc] at hc
           by_cases hk1 : k < len * i2.size
           ·rw [List.getElem?_append_left (by rw [hcl]; exact hk1)] at hy
            rw [List.getElem?_append_left (by rw [hol]; exact hk1)] at hc
            exact holdR k c y hc hy
           ·rw [List.getElem?_append_right (by rw [hcl]; omega), hcl] at hy
            have hlt : k - len * i2.size < news.length := by rw [hfl]; exact (List.getElem?_eq_some_iff.1 hy).1
            rw [List.getElem?_append_right (by rw [hol]; omega), hol, List.getElem?_append_left hlt] at hc
            exact hfR _ c y hc hy
          refine ⟨hfin.1.ext hext, hfin.2.1, ?_⟩
          split
          ·exact absurd rfl (hfin.2.2 _)
          ·trivial
       unfold Oper.wp
       rw [hop' _ _ hrun]
       have hf1 : FI N (w.setRow b NR) G' { st with heap := st.heap.set n .gone ++ [.cells (O ++ (xs.flatMap PV.cells).map dem)] } a vs (lmap vs ops) := by
        refine ⟨hf.len, fun i t u h1 h2 => (hf.var i t u h1 h2).keep hext hkeep (by simp) (by simp), fun j t u h1 h2 => (hf.loc j t u h1 h2).keep hext hkeep (by simp) (by simp), hf.tv, hf.tl, hf.defers, hf.gen, ?_, ?_, hheap, ?_⟩
        ·intro y k hy
         simp only [G'] at hy
         split at hy
         ·rename_i hyb; simp [World.setRow, hyb, hblt]
         ·have := hf.owlt _ _ hy; simpa [World.setRow] using this
        ·intro y o' h; have := hf.fixlt _ _ h; simpa [World.setRow] using this
        ·intro m y hy
         simp only [G'] at hy
         split at hy
         ·simp; omega
         ·have := hf.hdom _ _ hy; simp; omega
       refine hk _ _ G' (hf1.put nm (cDst_ok ho) (SR.of_pure (.rowp _ _ _ _ b cap (by simp [G']) hle ⟨T, cv.size, ?_, hsh2⟩) rfl)) hext (put_size _ _ _)
       simp only [World.shape?, setRow_heap w b cv NR T (0, 0) hh, hNRs]
   ·simp at hs
  ·simp at hs
 ·rename_i xs hro hraw
  have hsr := raw_sound hE hs' hf hraw
  obtain ⟨hvr, hroom⟩ : VR N w G.fix G.heap (a.eval s) (.list true []) ∧ Room w G (keyX ps) (a.eval s) [] := hsr
  have hform : ∃ base, a.eval s = .slice base 0 0 := by
   generalize a.eval s = v at hvr hroom
   cases hvr with
   | nils => exact ⟨none, rfl⟩
   | void _ ad cap =>
     rcases hroom with h | ⟨_, _, _, _, _, _, _, h, _⟩
     ·subst h; exact ⟨_, rfl⟩
     ·simp at h
   | list _ b off len cap sz _ cv hlen hcap _ _ _ _ =>
     simp at hlen; subst hlen
     rcases hroom with h | ⟨_, _, _, _, _, _, _, h, _⟩
     ·subst h; exact ⟨_, rfl⟩
     ·simp at h
  obtain ⟨base, hv⟩ := hform
  split at hs
  ·rename_i hx0
   subst hx0
   simp only [Option.some.injEq, Prod.mk.injEq] at hs
   obtain ⟨rfl, rfl⟩ := hs
   obtain ⟨news, hRx, hsrc⟩ := src hro rfl
   have hn0 : news = [] := List.length_eq_zero_iff.1 (by rw [hRx.len]; simp)
   subst hn0
   refine wp_value nm ho hf (hop' _ _ (none_app hv hsrc hts hi rfl)) ?_ hk
   cases base with
   | none => exact ⟨.nils true, True.intro⟩
   | some ad => exact ⟨.void true ad 0, .inl rfl⟩
  ·rename_i hx0
   split at hs
   ·rename_i hc
    obtain ⟨hh2, hb1, hb2⟩ := hc
    simp only [Option.some.injEq, Prod.mk.injEq] at hs
    obtain ⟨rfl, rfl⟩ := hs
    obtain ⟨news, hRx, hsrc⟩ := src hro hh2
    have hpos : 0 < xs.length := List.length_pos_iff.2 hx0
    have hold : (Builtin.firstCells i2.size 0 (.slice base 0 0)).run P w.drew = .ok ([] : List Value).toArray w.drew := by
     cases base with
     | none => exact run_firstCells_none w.drew _ _ _ _
     | some ad => exact run_firstCells_some w.drew _ _ _ _ _ [] (by simp) (by simp)
    refine grow (heap1 := st.heap) (oldps := []) hf.heap rfl hRx hsrc hv hold (by simp) rfl (by simp) (by omega) (by omega) hb2 ?_
    simpa using hk
   ·simp at hs
 ·rename_i xs hro hraw
  have hvr : VR N w G.fix G.heap (a.eval s) .nils := ((raw_sound hE hs' hf hraw).read (r := .nils) rfl).1
  have hv : a.eval s = .slice none 0 0 := by
   generalize a.eval s = v at hvr
   cases hvr with
   | nils' => rfl
  split at hs
  ·rename_i hx0
   subst hx0
   simp only [Option.some.injEq, Prod.mk.injEq] at hs
   obtain ⟨rfl, rfl⟩ := hs
   obtain ⟨news, hRx, hsrc⟩ := src hro rfl
   have hn0 : news = [] := List.length_eq_zero_iff.1 (by rw [hRx.len]; simp)
   subst hn0
   exact wp_value nm ho hf (hop' _ _ (none_app hv hsrc hts hi rfl)) (SR.of_pure .nils' rfl) hk
  ·rename_i hx0
   split at hs
   ·rename_i hc
    obtain ⟨hh2, hb1, hb2⟩ := hc
    simp only [Option.some.injEq, Prod.mk.injEq] at hs
    obtain ⟨rfl, rfl⟩ := hs
    obtain ⟨news, hRx, hsrc⟩ := src hro hh2
    have hpos : 0 < xs.length := List.length_pos_iff.2 hx0
    refine grow (heap1 := st.heap) (oldps := []) hf.heap rfl hRx hsrc hv (run_firstCells_none w.drew _ _ _ _) (by simp) rfl (by simp) (by omega) (by omega) hb2 ?_
    simpa using hk
   ·simp at hs
 ·simp at hs
theorem run_append_zeros (w : World) (ts tx ty e : TypeId) (i : TypeInfo) (zv : Value) {k0 : IntKind} (hts : P.underlying ts = some (.slice e)) (htx : P.underlying tx = some (.int k0)) (hi : P.info? e = some i) (hz : i.zero = some zv) (k : IntKind) (n : Nat)
  (h0 : 0 < n) (hn : n ≤ 2147483648) (hb : i.bytes ≤ 16384) :
  (Builtin.append_ #[ts, tx] ty #[.slice none 0 0, .int k n]).run P w = .ok (.slice (some ⟨w.heap.size, 0, none⟩) n (grownCap w n 0 e))
   (w.drew.alloc (.cells ((if n * i.size = 0 then #[] else Builtin.zeroCells zv.cells n) ++ Builtin.zeroCells zv.cells (grownCap w n 0 e - n)) e)) := by
 have hbytes : n * i.bytes ≤ 140737488355328 := Nat.le_trans (Nat.mul_le_mul hn hb) (by decide)
 have hfit := growslice_fits (need := n) (old := 0) (bytes := i.bytes) h0 hbytes
 have hfit' : ¬ (281474976710656 < Builtin.nextslicecap n 0 * i.bytes) := by omega
 have hw : IntKind.i64.wrap (n : Int) = n := by
  show (if (true && decide ((n : Int) % 18446744073709551616 ≥ 9223372036854775808)) = true then (n : Int) % 18446744073709551616 - 18446744073709551616 else (n : Int) % 18446744073709551616) = _
  simp only [Bool.true_and, decide_eq_true_eq]
  split <;> omega
 have h1 : ¬ ((n : Int) < 0) := by omega
 have h2 : ¬ ((281474976710656 : Int) < (n : Int) * (i.bytes : Int)) := by
  have : ((n * i.bytes : Nat) : Int) ≤ 140737488355328 := Int.ofNat_le.2 hbytes
  rw [Int.natCast_mul] at this
  omega
 have h3 : ¬ ((9223372036854775807 : Int) < (n : Int)) := by omega
 have h4 : ¬ (n = 0) := by omega
 by_cases hsz : n * i.size = 0
 ·simp [Builtin.append_, run_underlying hts, run_underlying htx, Go.sizeOf, typeInfo, zeroValue, hi, hz, asInt, asIntOf, hw, h1, h2, h3, h4, hfit', Question.forced, newRow, grownCap, Builtin.firstCells, hsz]
 ·simp [Builtin.append_, run_underlying hts, run_underlying htx, Go.sizeOf, typeInfo, zeroValue, hi, hz, asInt, asIntOf, hw, h1, h2, h3, h4, hfit', Question.forced, newRow, grownCap, Builtin.firstCells, hsz]
theorem happz_sound (hE : EnvOk E N) (nm : Names vs (lmap vs ops)) (ho : ops[j]? = some o) (hf : FI N w G st a vs (lmap vs ops)) {ts tx e : TypeId} {k0 : IntKind} {size : Nat} {z : List PV} {s x : Operand} {ps px : PX}
  (hop : o.op = .call { callee := .builtin .append, args := #[s, x], argTypes := #[ts, tx] }) (hts : P.underlying ts = some (.slice e)) (htx : P.underlying tx = some (.int k0)) (hn : sizeT P e = some size) (hz : zeroT P e = some z)
  (hs' : cx E vs ops s = some ps) (hx : cx E vs ops x = some px) {cf : CallF} (hs : hopv cf (.happz size (isAggT P e) (P.bytesOf e) z ps px) st = some (u, st1)) (hk : Goes N w G a st1 u vs ops j o next) : o.wp P a w next Q := by
 obtain ⟨i, d, hi, hisz, hs0, hd⟩ := info_underlying hn
 obtain ⟨i2, zv, hi2, hzv, _, hzl, hzR, _⟩ := zeroT_sound (N := N) (w := w) (fix := G.fix) (hp := G.heap) hz
 have : i2 = i := by rw [hi] at hi2; simpa using hi2.symm
 subst this
 subst hisz
 have hzs : zv.cells.size = i2.size := by have := hzR.1; simp at this; omega
 have hzlen : z.length = i2.size := by have := hzR.1; simp at this; omega
 have hby : P.bytesOf e = i2.bytes := by simp [Program.bytesOf, hi]
 simp only [hopv] at hs
 rw [hby] at hs
 split at hs
 ·rename_i n hn0 hr0
  split at hs
  ·rename_i hc
   obtain ⟨h0, h1, hb⟩ := hc
   simp only [Option.some.injEq, Prod.mk.injEq] at hs
   obtain ⟨rfl, rfl⟩ := hs
   obtain ⟨k, hl⟩ := rdInt_sound hE hx hf hn0
   have hv : a.eval s = .slice none 0 0 := by
    have := (rd_sound hE hs' hf hr0).1
    generalize a.eval s = v at this
    cases this
    rfl
   obtain ⟨m, rfl⟩ : ∃ m : Nat, n = m := ⟨n.toNat, by omega⟩
   have hrun := run_append_zeros (P := P) w ts tx o.type e i2 zv hts htx hi hzv k m (by omega) (by omega) hb
   rw [← hv, ← hl] at hrun
   have hrun' : (execOp a.eval o).run P w = .ok (.value (.slice (some ⟨w.heap.size, 0, none⟩) m (grownCap w m 0 e))) (w.drew.alloc (.cells ((if m * i2.size = 0 then #[] else Builtin.zeroCells zv.cells m) ++ Builtin.zeroCells zv.cells (grownCap w m 0 e - m)) e)) := by
    simp [execOp, hop, resolve, invoke, builtin, hrun]
   have hpos : ¬ m * i2.size = 0 := by
    intro h
    rcases Nat.mul_eq_zero.1 h with h | h <;> omega
   rw [if_neg hpos] at hrun'
   have hnc := grownCap_ge w m 0 e
   refine happ_new (v := undef) (sz := i2.size) (cap := grownCap w m 0 e) nm ho hf hf.heap rfl hrun' hnc ?_ ?_ ?_ hk
   ·simp only [Array.size_append, size_zeroCells, hzs]
    rw [Nat.sub_mul]
    have : m * i2.size ≤ grownCap w m 0 e * i2.size := Nat.mul_le_mul_right _ hnc
    omega
   ·simp [List.length_flatten, hzlen, size_zeroCells, hzs]
   ·intro k c y hc hy
    simp only [Int.toNat_natCast] at hy
    rw [flat_get, List.length_map, hzlen] at hy
    split at hy
    ·rename_i hlt
     rw [Array.getElem?_append_left (by rw [size_zeroCells, hzs]; exact hlt)] at hc
     have hmod : k % i2.size < i2.size := Nat.mod_lt _ (by omega)
     have hc' : c = zv.cells[k % i2.size]! := by
      simp only [Builtin.zeroCells, Array.getElem?_map, Option.map_eq_some_iff] at hc
      obtain ⟨a', ha, rfl⟩ := hc
      have : a' = k := by
       obtain ⟨h1, h2⟩ := Array.getElem?_eq_some_iff.1 ha
       simpa using h2.symm
      rw [this, hzs]
     have hcz : zv.cells[k % i2.size]? = some c := by
      rw [hc']
      have : k % i2.size < zv.cells.size := by omega
      simp [this]
     simp only [List.getElem?_map, Option.map_eq_some_iff] at hy
     obtain ⟨y0, hy, rfl⟩ := hy
     exact ⟨(hzR.2.2 _ c y0 (by simpa using hcz) hy).dem, by rw [flat_dem]; exact hzR.2.1 y0 (List.mem_of_getElem? hy), dem_notOwn y0⟩
    ·simp at hy
  ·simp at hs
 ·simp at hs
theorem clear_sound (hE : EnvOk E N) (nm : Names vs (lmap vs ops)) (ho : ops[j]? = some o) (hf : FI N w G st a vs (lmap vs ops)) {t e : TypeId} {rest : List TypeId} {size : Nat} {z : List PV} {x : Operand} {px : PX} (hdst : o.dst = none)
  (hop : o.op = .call { callee := .builtin .clear, args := #[x], argTypes := ⟨t :: rest⟩ }) (hu : P.underlying t = some (.slice e)) (hn : sizeT P e = some size) (hz : zeroT P e = some z)
  (hx : cx E vs ops x = some px) {cf : CallF} (hs : hopv cf (.clear size px) st = some (u, st1)) (hk : Goes N w G a st1 u vs ops j o next) : o.wp P a w next Q := by
 obtain ⟨i, d, hi, hisz, hs0, hd⟩ := info_underlying hn
 obtain ⟨i2, zv, hi2, hzv, _, hzl, hzR, _⟩ := zeroT_sound (N := N) (w := w) (fix := G.fix) (hp := G.heap) hz
 have : i2 = i := by rw [hi] at hi2; simpa using hi2.symm
 subst this
 subst hisz
 have hzs : zv.cells.size = i2.size := by have := hzR.1; simp at this; omega
 simp only [hopv] at hs
 split at hs
 ·rename_i n sz off hrb
  split at hs
  ·rename_i cs hob
   split at hs
   ·rename_i hc
    obtain ⟨rfl, hoff⟩ := hc
    simp only [Option.some.injEq, Prod.mk.injEq] at hs
    obtain ⟨rfl, rfl⟩ := hs
    obtain ⟨agg, len, hvx⟩ : ∃ agg len, VR N w G.fix G.heap (a.eval x) (.rows n i2.size agg off len) := by
     obtain ⟨p, hr, hp⟩ := Option.bind_eq_some_iff.1 hrb
     have hvx := (rd_sound hE hx hf hr).1
     cases p <;> simp only [tailOf, Option.some.injEq, Prod.mk.injEq, reduceCtorEq] at hp
     ·rename_i n' sz' ag ln
      obtain ⟨rfl, rfl, rfl⟩ := hp
      generalize a.eval x = v at hvx ⊢
      cases hvx with
      | rowp _ _ _ _ b cap h hcap hsh =>
        obtain ⟨T, m, h1, h2⟩ := hsh
        exact ⟨ag, ln, .rows _ _ _ 0 _ b 0 cap m T h hcap (.inr (by simp)) h1 (by rw [Nat.zero_add]; exact Nat.le_trans (Nat.mul_le_mul_right _ hcap) h2)⟩
     ·obtain ⟨rfl, rfl, rfl⟩ := hp
      exact ⟨_, _, hvx⟩
    generalize hv : a.eval x = v at hvx
    cases hvx with
    | rows _ _ _ _ _ b o' cap m T hb hcap hoo hsh hm =>
      obtain ⟨ho1, ho2, cv, T', hh, hl, hcr⟩ := obj_open hf (show hget st n = some cs by simp [hget, hob]) hb
      have hmv : m = cv.size := by simp only [World.shape?, hh, Option.some.injEq, Prod.mk.injEq] at hsh; exact hsh.2.symm
      subst hmv
      have hblt : b < w.heap.size := hf.owlt _ _ ho1
      obtain ⟨NR, hNs, hNk, hrun⟩ : ∃ NR : Array Value, NR.size = cv.size ∧ (∀ k, k < off * i2.size → NR[k]? = cv[k]?) ∧ (execOp a.eval o).run P w = .ok (.value (.tuple #[])) (w.setRow b NR) := by
       cases len with
       | zero =>
         refine ⟨cv, rfl, fun _ _ => rfl, ?_⟩
         have hw : w.setRow b cv = w := by
          have h2 : (w.setRow b cv).heap = w.heap := by
           apply Array.ext_getElem?
           intro k
           by_cases hkb : k = b
           ·subst hkb; rw [setRow_heap w k cv cv T' (0, 0) hh, hh]
           ·exact setRow_other w b k _ hkb
          exact congrArg (fun h => { w with heap := h }) h2
         rw [hw]
         simp [execOp, hop, hv, resolve, invoke, builtin, Builtin.clear_, run_underlying hu]
       | succ len =>
         have ho : o' = off * i2.size := by rcases hoo with h | h; exact absurd h (by omega); exact h
         subst ho
         let zs : List Value := (Builtin.zeroCells zv.cells (len + 1)).toList
         have hzl2 : zs.length = (len + 1) * i2.size := by simp only [zs, Array.length_toList, size_zeroCells, hzs]
         have hst := run_storeCells_live P b (off * i2.size) T' (0, 0) zs 0 cv w hh (fun o _ h => by simp at h) (by rw [Nat.add_mul] at hm; simp only [hzl2]; omega) (by
          intro u hu
          simp only [zs, Builtin.zeroCells, Array.toList_map, List.mem_map] at hu
          obtain ⟨a', _, rfl⟩ := hu
          have hmod : a' % zv.cells.size < zv.cells.size := Nat.mod_lt _ (by omega)
          have hcz : zv.cells[a' % zv.cells.size]? = some zv.cells[a' % zv.cells.size]! := by simp [hmod]
          have hzl3 : a' % zv.cells.size < z.length := by have := hzR.1; simp at this; omega
          have h1 := (hzR.2.2 _ _ z[a' % zv.cells.size] (by simpa using hcz) (List.getElem?_eq_getElem hzl3)).oneCell (hzR.2.1 _ (List.getElem_mem hzl3))
          generalize zv.cells[a' % zv.cells.size]! = c at h1
          cases c <;> first | rfl | simp [oneCell] at h1)
         refine ⟨(cv.toList.take (off * i2.size) ++ zs ++ cv.toList.drop (off * i2.size + zs.length)).toArray, ?_, ?_, ?_⟩
         ·rw [Nat.add_mul] at hm
          simp only [List.size_toArray, List.length_append, List.length_take, List.length_drop, Array.length_toList, hzl2]; omega
         ·intro k hk
          rw [Nat.add_mul] at hm
          simp only [List.getElem?_toArray, List.append_assoc]
          rw [List.getElem?_append_left (by simp; omega), List.getElem?_take, if_pos hk]
          simp
         ·simp only [zs] at hst
          simp [execOp, hop, hv, resolve, invoke, builtin, Builtin.clear_, run_underlying hu, zeroValue, typeInfo, hi, hzv, hst, zs]
      have hother : ∀ x, x ≠ b → (w.setRow b NR).heap[x]? = w.heap[x]? := fun x hx => setRow_other w b x _ hx
      have hext : Ext w G (w.setRow b NR) G := by
       refine ⟨rfl, rfl, rfl, by simp [World.setRow], ?_, ?_, fun _ _ h => .inl h, fun _ h => .inr h, fun _ _ h => h, shape_setRow hh _ hNs, rfl⟩
       ·intro x _ hxo
        exact hother x (by rintro rfl; rw [ho1] at hxo; simp at hxo)
       ·intro x o' hfx
        refine ⟨hfx, ?_⟩
        have hxb : x ≠ b := by rintro rfl; exact ho2 _ hfx
        simp only [World.cell?, hother x hxb]
      have hkeep : Keep (fun k => k = .hobj n) w G (w.setRow b NR) G := by
       refine ⟨?_, fun _ _ h => h⟩
       intro x k hxk hnk
       refine ⟨hxk, hother x ?_, fun _ h => h⟩
       rintro rfl
       rw [ho1] at hxk
       simp at hxk
       exact hnk hxk.symm
      have hf2 : FI N (w.setRow b NR) G { st with heap := st.heap.set n (.cells (cs.take (off * i2.size))) } a vs (lmap vs ops) := by
       refine ⟨hf.len, fun i t' u' h1 h2 => (hf.var i t' u' h1 h2).keep hext hkeep (by simp) (by simp), fun i t' u' h1 h2 => (hf.loc i t' u' h1 h2).keep hext hkeep (by simp) (by simp), hf.tv, hf.tl, hf.defers, hf.gen, ?_, ?_, ?_, ?_⟩
       ·intro x k hx; simpa [World.setRow] using hf.owlt x k hx
       ·intro x o' hx; simpa [World.setRow] using hf.fixlt x o' hx
       ·refine hf.heap.keepBut hext hkeep (fun n k hne => ⟨by simp; omega, by simp⟩) (fun _ => ?_)
        refine .inr ⟨b, hb, ho1, ho2, NR, T', setRow_heap w b cv NR T' (0, 0) hh, ?_, ?_⟩
        ·simp; omega
        ·intro k c y hc hy
         rw [List.getElem?_take] at hy
         split at hy
         ·rename_i hk2
          rw [hNk k hk2] at hc
          exact (hcr k c y hc hy).keep hext hkeep (by simp)
         ·simp at hy
       ·simp only [List.length_set]; exact hf.hdom
      unfold Oper.wp
      rw [hrun]
      have hput : a.put o.dst (.tuple #[]) = a := by simp [hdst, Act.put]
      have hd : cDst vs o.dst = .n := by simp [hdst, cDst]
      show next (a.put o.dst (.tuple #[])) _
      rw [hput]
      refine hk _ _ G ?_ hext rfl
      rw [hd]
      exact hf2
   ·simp at hs
  ·simp at hs
 ·simp at hs
end
end PI
