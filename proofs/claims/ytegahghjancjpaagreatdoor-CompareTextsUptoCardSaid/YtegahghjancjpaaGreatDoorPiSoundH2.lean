import Derived.Test.YtegahghjancjpaaGreatDoorPiSound1
import Derived.Laws.MakeOwn
import Derived.Laws.RangeString
import Derived.Orders
import Derived.LoopN
import Derived.Test.YtegahghjancjpaaGreatDoorPiOrd
import Derived.RangeFuncLeaves
import Derived.RangeFuncIn
import Derived.LoopNIn
import Derived.OrdersIn
set_option linter.unusedSimpArgs false
set_option linter.unusedVariables false
namespace PI
open Go Go.MapKept
section
variable {E : Env} {N : Nm} {w : World} {G : GS} {st : St} {a : Act} {vs : List Tmp} {ops : List Oper} {P : Program}
variable {o : Oper} {j : Nat} {next : Act → World → Prop} {Q : Exit → Act → World → Prop} {u : PV} {st1 : St}
theorem bytesEq (s t : ByteArray) : (s == t) = (s.data.toList == t.data.toList) := by
  rw [Bool.eq_iff_iff, MapKept.bytes_beq, beq_iff_eq]
  constructor
  · rintro rfl; rfl
  · intro h
    obtain ⟨⟨s⟩⟩ := s
    obtain ⟨⟨t⟩⟩ := t
    simpa using h
theorem same_sound {kt : TypeId} {d : TypeDesc} {kk : EK} {fix : Nat → Nat → Prop} {hp : Nat → Option Nat} {vx vy : Value} {x y : PV} {b : Bool} (hd : P.underlying kt = some d) (hk : ekT P kt = some kk) (hx : VR N w fix hp vx x) (hy : VR N w fix hp vy y) (h : peq1 kk x y = some b) :
    Instr.sameNow d vx vy = some b := by
  unfold ekT at hk
  rw [hd] at hk
  unfold peq1 at h
  split at h
  · cases hx; cases hy
    simp only [Option.some.injEq] at h; subst h
    split at hk <;> simp at hk
    rename_i hdd
    simp at hdd; subst hdd
    rfl
  · cases hx; cases hy
    split at h
    · subst_vars
      simp only [Option.some.injEq] at h; subst h
      split at hk <;> simp at hk
      rename_i hdd
      simp at hdd; subst hdd
      simp [Instr.sameNow]
    · simp at h
  · cases hx; cases hy
    simp only [Option.some.injEq] at h; subst h
    split at hk <;> simp at hk
    rename_i hdd
    simp at hdd; subst hdd
    simp only [Instr.sameNow, bytesEq]
  · simp at h
theorem same_bits {fix : Nat → Nat → Prop} {hp : Nat → Option Nat} {kk : EK} {vx vy : Value} {x y : PV} (hx : VR N w fix hp vx x) (hy : VR N w fix hp vy y) (h : peq1 kk x y = some true) (n : Nat) : Instr.sameBits n vy vx = true := by
  unfold peq1 at h
  split at h
  · cases hx; cases hy
    simp at h; subst h; simp [Instr.sameBits]
  · cases hx; cases hy
    split at h
    · subst_vars
      simp at h; subst h; simp [Instr.sameBits]
    · simp at h
  · cases hx with
    | str s =>
      cases hy with
      | str t =>
        have e : (s == t) = true := by rw [bytesEq]; simpa using h
        have e' : s = t := (MapKept.bytes_beq s t).1 e
        subst e'
        simpa [Instr.sameBits] using e
  · simp at h
theorem find_sound {kt : TypeId} {d : TypeDesc} {kk : EK} {fix : Nat → Nat → Prop} {hp : Nat → Option Nat} {kv : Value} {kp : PV} (hd : P.underlying kt = some d) (hk : ekT P kt = some kk) (hkv : VR N w fix hp kv kp) :
    ∀ {mes : List MapEntry} {es : List (PV × PV)} {i : Nat} {r : Option (Nat × PV)}, mes.length = es.length → (∀ (i : Nat) (e : MapEntry) (p : PV × PV), mes[i]? = some e → es[i]? = some p → VR N w fix hp e.key p.1) →
    mfind false [kk] kp es i = some r →
    (r = none ∧ Instr.findNow d kv mes i = some none) ∨ (∃ n v e p1, r = some (i + n, v) ∧ Instr.findNow d kv mes i = some (some (i + n, e.val)) ∧ mes[n]? = some e ∧ es[n]? = some (p1, v) ∧ peq1 kk kp p1 = some true)
  | [], [], i, r, _, _, h => by
    simp [mfind] at h; subst h
    exact .inl ⟨rfl, rfl⟩
  | e :: mes, p :: es, i, r, hl, hv, h => by
    simp only [mfind, peq, Bool.false_eq_true, if_false, Option.bind_eq_some_iff] at h
    obtain ⟨b, hb, h⟩ := h
    have hs := same_sound hd hk hkv (hv 0 e p rfl rfl) hb
    cases b with
    | true =>
      simp at h; subst h
      exact .inr ⟨0, p.2, e, p.1, rfl, by simp [Instr.findNow, hs], rfl, rfl, hb⟩
    | false =>
      simp at h
      rcases find_sound hd hk hkv (mes := mes) (es := es) (by simpa using hl) (fun i e p h1 h2 => hv (i + 1) e p (by simpa using h1) (by simpa using h2)) h with ⟨h1, h2⟩ | ⟨n, v, e', p1, h1, h2, h3, h4, h5⟩
      · exact .inl ⟨h1, by simp [Instr.findNow, hs, h2]⟩
      · exact .inr ⟨n + 1, v, e', p1, by rw [h1]; simp; omega, by simp [Instr.findNow, hs, h2]; omega, by simpa using h3, by simpa using h4, h5⟩
  | [], _ :: _, _, _, hl, _, _ => by simp at hl
  | _ :: _, [], _, _, hl, _, _ => by simp at hl
theorem run_checkKeyT {kt : TypeId} {kk : EK} (hk : ekT P kt = some kk) (b : Bool) (v : Value) : (Instr.checkKey b 10000 kt v).run P w = .ok () w := by
  unfold ekT at hk
  unfold Instr.checkKey
  split at hk
  · rename_i hu; simp only [Sem.run_bind, run_underlying hu, Result.andThen_ok]; cases v <;> rfl
  · rename_i hu; simp only [Sem.run_bind, run_underlying hu, Result.andThen_ok]; cases v <;> rfl
  · rename_i hu; simp only [Sem.run_bind, run_underlying hu, Result.andThen_ok]; cases v <;> rfl
  · simp at hk
theorem keyT_cases {kt : TypeId} {kk : Bool × List EK} (h : keyT P kt = some kk) : (∃ k, ekT P kt = some k ∧ kk = (false, [k])) ∨
    ∃ fs, P.underlying kt = some (.struct fs) ∧ eqFields P fs.toList 0 = some kk.2 ∧ kk.1 = true ∧ P.stoodInHeld kt = false := by
  unfold keyT at h
  split at h
  · rename_i k hk
    simp only [Option.some.injEq] at h
    exact .inl ⟨k, hk, h.symm⟩
  · split at h
    · rename_i ks hks
      simp only [Option.some.injEq] at h
      subst h
      unfold eqT at hks
      split at hks
      · simp at hks
      · simp at hks
      · simp at hks
      · rename_i fs hu
        split at hks
        · rename_i ks' hks'
          split at hks
          · rename_i hcond
            simp only [Option.some.injEq, Prod.mk.injEq, true_and] at hks
            subst hks
            simp only [Bool.and_eq_true, Bool.not_eq_true'] at hcond
            exact .inr ⟨fs, hu, hks', rfl, hcond.1⟩
          · simp at hks
        · simp at hks
      · simp at hks
    · simp at h
theorem eqFields_len : ∀ {fs : List Field} {off : Nat} {ks : List EK}, eqFields P fs off = some ks → ks.length = fs.length ∧ ∀ f ∈ fs, ∃ i, off ≤ i ∧ i < off + fs.length ∧ f.offset = i ∧ f.name ≠ "_" ∧ sizeT P f.type = some 1 ∧ isAggT P f.type = false ∧ ∃ k, ekT P f.type = some k
  | [], off, ks, h => by simp [eqFields] at h; subst h; simp
  | f :: fs, off, ks, h => by
    simp only [eqFields] at h
    split at h
    · rename_i hc
      simp only [Option.bind_eq_some_iff, Option.map_eq_some_iff] at h
      obtain ⟨k, hk, ks', hks, rfl⟩ := h
      obtain ⟨h1, h2⟩ := eqFields_len hks
      refine ⟨by simp [h1], ?_⟩
      intro g hg
      rcases List.mem_cons.1 hg with rfl | hg
      · exact ⟨off, Nat.le_refl _, by simp, hc.1, hc.2.1, hc.2.2.1, hc.2.2.2, k, hk⟩
      · obtain ⟨i, a1, a2, a3⟩ := h2 g hg
        exact ⟨i, by omega, by simp; omega, a3⟩
    · simp at h
theorem peqs_len : ∀ {ks : List EK} {xs ys : List PV} {b : Bool}, peqs ks xs ys = some b → xs.length = ks.length ∧ ys.length = ks.length
  | [], xs, ys, b, h => by cases xs <;> cases ys <;> simp_all [peqs]
  | k :: ks, xs, ys, b, h => by
    cases xs with
    | nil => simp [peqs] at h
    | cons x xs =>
      cases ys with
      | nil => simp [peqs] at h
      | cons y ys =>
        simp only [peqs, Option.bind_eq_some_iff, Option.map_eq_some_iff] at h
        obtain ⟨_, _, _, h2, _⟩ := h
        obtain ⟨a1, a2⟩ := peqs_len h2
        simp [a1, a2]
theorem mfind_agg {ks : List EK} {kp : PV} {es : List (PV × PV)} {i : Nat} {r} (h : mfind true ks kp es i = some r) : ∃ cs, kp = .agg cs ∧ cs.length = ks.length := by
  cases es with
  | nil =>
    rw [mfind.eq_def] at h
    cases kp <;> simp only [Option.ite_none_right_eq_some, reduceCtorEq] at h <;> exact ⟨_, rfl, h.1⟩
  | cons e es =>
    simp only [mfind, Option.bind_eq_some_iff] at h
    obtain ⟨b, hb, _⟩ := h
    simp only [peq, if_true] at hb
    split at hb
    · exact ⟨_, rfl, (peqs_len hb).1⟩
    · simp at hb
theorem run_checkKeyK {kt : TypeId} {kk : Bool × List EK} {G : GS} {kv : Value} {kp : PV} (hk : keyT P kt = some kk) (hkv : VR N w G.fix G.heap kv kp) {es : List (PV × PV)} {i : Nat} {r} (h : mfind kk.1 kk.2 kp es i = some r) (b : Bool) : (Instr.checkKey b 10000 kt kv).run P w = .ok () w := by
  rcases keyT_cases hk with ⟨k, hk', rfl⟩ | ⟨fs, hu, hf, h1, _⟩
  · exact run_checkKeyT hk' b kv
  · rw [h1] at h
    obtain ⟨cs, rfl, hl⟩ := mfind_agg h
    obtain ⟨vs, rfl, hc⟩ := CellsR.of_agg hkv
    obtain ⟨e1, e2⟩ := eqFields_len hf
    have hsz : vs.size = fs.size := by have := hc.1; simp at this; simp at e1; omega
    have key : ∀ (l : List Field), (∀ f ∈ l, f ∈ fs.toList) → ((do for f in l do if f.name ≠ "_" then Instr.checkKey b 9999 f.type (← part f.type vs f.offset)) : Sem Unit).run P w = .ok () w := by
      intro l
      induction l with
      | nil => intro _; rfl
      | cons f l ih =>
        intro hl
        obtain ⟨i, a1, a2, a3, a4, a5, a6, k, a7⟩ := e2 f (hl f (by simp))
        have hlt : i < vs.size := by simp at a2; omega
        have hpart : (part f.type vs f.offset).run P w = .ok vs[i] w := by
          simp [part, run_isAggT a5, a6, a3, hlt]
        have hck : (Instr.checkKey b 9999 f.type vs[i]).run P w = .ok () w := by
          unfold ekT at a7
          unfold Instr.checkKey
          split at a7
          · rename_i hu; simp only [Sem.run_bind, run_underlying hu, Result.andThen_ok]; cases vs[i] <;> rfl
          · rename_i hu; simp only [Sem.run_bind, run_underlying hu, Result.andThen_ok]; cases vs[i] <;> rfl
          · rename_i hu; simp only [Sem.run_bind, run_underlying hu, Result.andThen_ok]; cases vs[i] <;> rfl
          · simp at a7
        have ih' := ih (fun g hg => hl g (by simp [hg]))
        rw [List.forIn_cons]
        simp only [Sem.run_bind, ne_eq, a4, not_false_eq_true, if_true, hpart, Result.andThen_ok, hck, Sem.run_pure] at ih' ⊢
        exact ih'
    unfold Instr.checkKey
    simp only [Sem.run_bind, run_underlying hu, Result.andThen_ok, ← Array.forIn_toList]
    have := key fs.toList (fun _ h => h)
    rw [Sem.run_bind] at this
    exact this
theorem same_bitsS {ks : List EK} : ∀ {xs ys : List PV} {cs ds : List Value}, peqs ks xs ys = some true → cs.length = xs.length → ds.length = ys.length → ∀ {fix : Nat → Nat → Prop} {hp : Nat → Option Nat}, (∀ (i : Nat) (v : Value) (p : PV), cs[i]? = some v → xs[i]? = some p → VR N w fix hp v p) →
    (∀ (i : Nat) (v : Value) (p : PV), ds[i]? = some v → ys[i]? = some p → VR N w fix hp v p) → ∀ n, ((ds.zip cs).all fun (x, y) => Instr.sameBits n x y) = true := by
  induction ks with
  | nil =>
    intro xs ys cs ds h h1 h2 fix hp hx hy n
    obtain ⟨a1, a2⟩ := peqs_len h
    simp at a1 a2
    subst a1 a2
    simp at h1 h2
    subst h1 h2
    rfl
  | cons k ks ih =>
    intro xs ys cs ds h h1 h2 fix hp hx hy n
    cases xs with
    | nil => simp [peqs] at h
    | cons x xs =>
      cases ys with
      | nil => simp [peqs] at h
      | cons y ys =>
        simp only [peqs, Option.bind_eq_some_iff, Option.map_eq_some_iff] at h
        obtain ⟨b1, hb1, b2, hb2, hb⟩ := h
        simp only [Bool.and_eq_true] at hb
        obtain ⟨rfl, rfl⟩ := hb
        cases cs with
        | nil => simp at h1
        | cons c cs =>
          cases ds with
          | nil => simp at h2
          | cons d ds =>
            simp only [List.zip_cons_cons, List.all_cons, Bool.and_eq_true]
            exact ⟨same_bits (hx 0 c x rfl rfl) (hy 0 d y rfl rfl) hb1 n, ih hb2 (by simpa using h1) (by simpa using h2) (fun i v p a b => hx (i + 1) v p (by simpa using a) (by simpa using b)) (fun i v p a b => hy (i + 1) v p (by simpa using a) (by simpa using b)) n⟩
theorem same_bitsK {kk : Bool × List EK} {G : GS} {vx vy : Value} {x y : PV} (hx : VR N w G.fix G.heap vx x) (hy : VR N w G.fix G.heap vy y) (h : peq kk.1 kk.2 x y = some true) (n : Nat) : Instr.sameBits (n + 1) vy vx = true := by
  unfold peq at h
  split at h
  · split at h
    · rename_i xs ys
      obtain ⟨cs, rfl, hc⟩ := CellsR.of_agg hx
      obtain ⟨ds, rfl, hd⟩ := CellsR.of_agg hy
      obtain ⟨a1, a2⟩ := peqs_len h
      have h1 := hc.1
      have h2 := hd.1
      simp only [Instr.sameBits, Bool.and_eq_true, beq_iff_eq]
      refine ⟨by simp at h1 h2; omega, same_bitsS h (by simpa using h1) (by simpa using h2) (fun i v p a b => hc.2.2 i v p (by simpa using a) b) (fun i v p a b => hd.2.2 i v p (by simpa using a) b) n⟩
    · simp at h
  · split at h
    · exact same_bits hx hy h (n + 1)
    · simp at h
theorem findK_sound {kt : TypeId} {kk : Bool × List EK} {G : GS} {kv : Value} {kp : PV} (hk : keyT P kt = some kk) (hkv : VR N w G.fix G.heap kv kp) {mes : List MapEntry} {es : List (PV × PV)} {r : Option (Nat × PV)} (hl : mes.length = es.length)
    (hv : ∀ (i : Nat) (e : MapEntry) (p : PV × PV), mes[i]? = some e → es[i]? = some p → VR N w G.fix G.heap e.key p.1) (h : mfind kk.1 kk.2 kp es 0 = some r) :
    (r = none ∧ (Instr.findKey kt kv mes).run P w = .ok none w) ∨ (∃ n v e p1, r = some (n, v) ∧ (Instr.findKey kt kv mes).run P w = .ok (some (n, e.val)) w ∧ mes[n]? = some e ∧ es[n]? = some (p1, v) ∧ peq kk.1 kk.2 kp p1 = some true) := by
  rcases keyT_cases hk with ⟨k, hk', rfl⟩ | ⟨fs, hu, hf, h1, hst⟩
  · obtain ⟨d, hd⟩ : ∃ d, P.underlying kt = some d := by
      unfold ekT at hk'
      split at hk' <;> first | exact ⟨_, by assumption⟩ | simp at hk'
    rcases find_sound hd hk' hkv hl hv h with ⟨a1, a2⟩ | ⟨n, v, e, p1, a1, a2, a3, a4, a5⟩
    · exact .inl ⟨a1, run_findKey hd a2⟩
    · simp only [Nat.zero_add] at a1 a2
      exact .inr ⟨n, v, e, p1, a1, run_findKey hd a2, a3, a4, by simpa [peq] using a5⟩
  · simp only [h1] at h ⊢
    have ask : ∀ (mes : List MapEntry) (es : List (PV × PV)) (i : Nat) (r : Option (Nat × PV)), mes.length = es.length → (∀ (i : Nat) (e : MapEntry) (p : PV × PV), mes[i]? = some e → es[i]? = some p → VR N w G.fix G.heap e.key p.1) → mfind true kk.2 kp es i = some r →
        (r = none ∧ (Instr.findAsking kt kv mes i).run P w = .ok none w) ∨ (∃ n v e p1, r = some (i + n, v) ∧ (Instr.findAsking kt kv mes i).run P w = .ok (some (i + n, e.val)) w ∧ mes[n]? = some e ∧ es[n]? = some (p1, v) ∧ peq true kk.2 kp p1 = some true) := by
      intro mes
      induction mes with
      | nil =>
        intro es i r hl hv h
        cases es with
        | cons _ _ => simp at hl
        | nil =>
          obtain ⟨cs, rfl, hlen⟩ := mfind_agg h
          rw [mfind.eq_def] at h
          simp only [hlen, if_true, Option.some.injEq] at h
          subst h
          exact .inl ⟨rfl, by simp [Instr.findAsking]⟩
      | cons e mes ih =>
        intro es i r hl hv h
        cases es with
        | nil => simp at hl
        | cons p es =>
          simp only [mfind, Option.bind_eq_some_iff] at h
          obtain ⟨b, hb, h⟩ := h
          have hb0 := hb
          simp only [peq, if_true] at hb
          split at hb
          · rename_i ys hys _
            have hve := hv 0 e p rfl rfl
            rw [hys] at hve
            clear hys
            obtain ⟨cs, rfl, hc⟩ := CellsR.of_agg hkv
            obtain ⟨ds, hds, hd⟩ := CellsR.of_agg hve
            have hfo : P.fieldsOf kt = fs := by simp [Program.fieldsOf, hu]
            have heq := run_equalIn_struct (P := P) w 9999 kt cs ds (by rw [hfo]; exact hu) hst
            rw [hfo, peqs_sound hc hd hf (by simpa using hb)] at heq
            have heq' : (Op.equal kt (.agg cs) e.key).run P w = .ok b w := by
              rw [hds]
              simpa [Op.equal, Op.maxDepth] using heq
            cases b with
            | true =>
              simp at h; subst h
              exact .inr ⟨0, p.2, e, p.1, rfl, by simp [Instr.findAsking, heq'], rfl, rfl, hb0⟩
            | false =>
              simp at h
              rcases ih es (i + 1) r (by simpa using hl) (fun i e p a b => hv (i + 1) e p (by simpa using a) (by simpa using b)) h with ⟨a1, a2⟩ | ⟨n, v, e', p1, a1, a2, a3, a4, a5⟩
              · exact .inl ⟨a1, by simp [Instr.findAsking, heq', a2]⟩
              · exact .inr ⟨n + 1, v, e', p1, by rw [a1]; simp; omega, by simp [Instr.findAsking, heq', a2]; omega, by simpa using a3, by simpa using a4, a5⟩
          · simp at hb
    have hfk : (Instr.findKey kt kv mes).run P w = (Instr.findAsking kt kv mes 0).run P w := by
      obtain ⟨cs, rfl, _⟩ := mfind_agg h
      obtain ⟨vs, rfl, _⟩ := CellsR.of_agg hkv
      unfold Instr.findKey
      simp only [Sem.run_bind, run_underlying hu, Result.andThen_ok]
      cases mes with
      | nil => simp [Instr.findNow, Instr.findAsking]
      | cons e mes =>
        have : Instr.findNow (.struct fs) (.agg vs) (e :: mes) 0 = none := by simp [Instr.findNow, Instr.sameNow]
        rw [this]
    rw [hfk]
    rcases ask mes es 0 r hl hv h with h | ⟨n, v, e, p1, a1, a2, a3⟩
    · exact .inl h
    · exact .inr ⟨n, v, e, p1, by simpa using a1, by simpa using a2, a3⟩
theorem zeroV_sound {fix : Nat → Nat → Prop} {hp : Nat → Option Nat} {t : TypeId} {z : PV} (h : zeroV P t = some z) : ∃ zv, (zeroValue t).run P w = .ok zv w ∧ VR N w fix hp zv z ∧ ((∃ es, z = .list true es ∧ zv = .slice none 0 0) ∨ cp z = some z) := by
  unfold zeroV at h
  split at h
  · rename_i i hi
    simp only [Option.bind_eq_some_iff] at h
    obtain ⟨zv, h1, h2⟩ := h
    exact ⟨zv, by simp [zeroValue, typeInfo, hi, h1], constPV_sound h2, constPV_form h2⟩
  · simp at h
theorem VR.cp_dem' {fix : Nat → Nat → Prop} {hp : Nat → Option Nat} {v : Value} {p : PV} (h : VR N w fix hp v p) : cp (PI.dem p) = some (PI.dem p) := by
  cases h <;> rfl
theorem map_open (hf : FI N w G st a vs (lmap vs ops)) {n b : Nat} {es : List (PV × PV)} (hg : mget st (some n) = some es) (hb : G.heap n = some b) :
    G.ow b = some (.hobj n) ∧ st.heap[n]? = some (.map es) ∧ ObjR N w G n b (.map es) := by
  unfold mget at hg
  simp only at hg
  split at hg
  · rename_i es' hn
    simp at hg; subst hg
    rcases hf.heap.1 n _ hn with e | ⟨b', h1, h2, h3⟩
    · simp at e
    have : b' = b := by rw [hb] at h1; simpa using h1.symm
    subst this
    exact ⟨h2, hn, h3⟩
  · simp at hg
theorem MR.read {key : Key} {v : Value} {p : PV} (h : MR N w G key v p) : VR N w G.fix G.heap v (dem p) := h.1.dem
theorem lookup_sound (hE : EnvOk E N) (nm : Names vs (lmap vs ops)) (ho : ops[j]? = some o) (hf : FI N w G st a vs (lmap vs ops)) {t kt e : TypeId} {m x : Operand} {ok : Bool} {kk : Bool × List EK} {z : PV} {pm px : PX} {tk : Bool}
    (hop : o.op = .lookup t m x ok) (hu : P.underlying t = some (.map kt e)) (hkk : keyT P kt = some kk) (hz : zeroV P e = some z) (hm : cx E vs ops m = some pm) (hx : cx E vs ops x = some px) {cf : CallF}
    (hs : hopv cf (.lookup ok tk kk.1 kk.2 z pm px) st = some (u, st1)) (hk : Goes N w G a st1 u vs ops j o next) : o.wp P a w next Q := by
  obtain ⟨zv, hz1, hz2, hz3⟩ := zeroV_sound (P := P) (N := N) (w := w) (fix := G.fix) (hp := G.heap) hz
  simp only [hopv] at hs
  split at hs
  · rename_i n k hrm hrk
    have hkv := (rd_sound hE hx hf hrk).1
    have hmv := (rd_sound hE hm hf hrm).1
    simp only [Option.bind_eq_some_iff] at hs
    obtain ⟨es, hg, r, hfi, hs⟩ := hs
    have run : ∀ (mes : Array MapEntry) (r' : Option (Nat × Value)), (a.eval m = .map none ∧ mes = #[] ∨ ∃ b clock, a.eval m = .map (some b) ∧ w.heap[b]? = some (.map mes clock)) → (Instr.findKey kt (a.eval x) mes.toList).run P w = .ok r' w →
        (execOp a.eval o).run P w = .ok (.value (if ok then .tuple #[(r'.map Prod.snd).getD zv, .bool r'.isSome] else (r'.map Prod.snd).getD zv)) w := by
      intro mes r' h1 h2
      have hfk := h2
      rcases h1 with ⟨h1, rfl⟩ | ⟨b, clock, h1, h3⟩
      · simp only [execOp, hop, Instr.lookup, Sem.run_bind, run_underlying hu, Result.andThen_ok, h1, Sem.run_pure, run_checkKeyK hkk hkv hfi, hfk]
        cases r' with
        | none => simp [hz1]
        | some q => simp
      · simp only [execOp, hop, Instr.lookup, Sem.run_bind, run_underlying hu, Result.andThen_ok, h1, run_getObj_map h3, Sem.run_pure, run_checkKeyK hkk hkv hfi, hfk]
        cases r' with
        | none => simp [hz1]
        | some q => simp
    generalize hmval : a.eval m = mv at hmv run
    cases hmv with
    | mapn =>
      simp only [mget, Option.some.injEq] at hg
      subst hg
      have h0 := findK_sound (P := P) hkk hkv (mes := []) (es := []) rfl (by simp) hfi
      have h0' : r = none ∧ (Instr.findKey kt (a.eval x) []).run P w = .ok none w := by
        rcases h0 with h0 | ⟨n, v, e, p1, _, _, h3, _⟩
        · exact h0
        · simp at h3
      obtain ⟨rfl, hfn⟩ := h0'
      simp only [Option.some.injEq, Prod.mk.injEq] at hs
      obtain ⟨rfl, rfl⟩ := hs
      have hrun := run #[] none (.inl ⟨rfl, rfl⟩) hfn
      simp only [Option.map_none, Option.getD_none, Option.isSome_none] at hrun
      cases ok with
      | true =>
        refine wp_value nm ho hf hrun (SR.of_pure (.tuple _ _ rfl ?_) rfl) hk
        intro i c p hc hp
        match i, hc, hp with
        | 0, hc, hp => simp at hc hp; subst hc hp; exact hz2
        | 1, hc, hp => simp at hc hp; subst hc hp; exact .bool _
      | false =>
        refine wp_value nm ho hf hrun ?_ hk
        rcases hz3 with ⟨es, rfl, rfl⟩ | h
        · exact ⟨hz2, trivial⟩
        · exact SR.of_pure hz2 h
    | map n b hb =>
      obtain ⟨ho1, hgn, hobj⟩ := map_open hf hg hb
      obtain ⟨mes, clock, a1, a2, a3, a4, a5⟩ := hobj
      have hK : (Value.map (some b) = .map none ∧ mes = #[]) ∨ ∃ b' clock, Value.map (some b) = .map (some b') ∧ w.heap[b']? = some (.map mes clock) := .inr ⟨b, clock, rfl, a1⟩
      rcases findK_sound hkk hkv (mes := mes.toList) (es := es) (by simpa using a2) (fun i e p h1 h2 => (a5 i e p (by simpa using h1) h2).1) hfi with ⟨rfl, h2⟩ | ⟨i, v, en, p1, rfl, h2, h3, h4, _⟩
      · have hrun := run mes none hK h2
        simp only [Option.some.injEq, Prod.mk.injEq] at hs
        obtain ⟨rfl, rfl⟩ := hs
        simp only [Option.map_none, Option.getD_none, Option.isSome_none] at hrun
        cases ok with
        | true =>
          refine wp_value nm ho hf hrun (SR.of_pure (.tuple _ _ rfl ?_) rfl) hk
          intro i c p hc hp
          match i, hc, hp with
          | 0, hc, hp => simp at hc hp; subst hc hp; exact hz2
          | 1, hc, hp => simp at hc hp; subst hc hp; exact .bool _
        | false =>
          refine wp_value nm ho hf hrun ?_ hk
          rcases hz3 with ⟨es, rfl, rfl⟩ | h
          · exact ⟨hz2, trivial⟩
          · exact SR.of_pure hz2 h
      · have hrun := run mes _ hK h2
        have hmr := (a5 i en (p1, v) (by simpa using h3) h4).2
        simp only [Option.map_some, Option.getD_some, Option.isSome_some] at hrun
        simp only at hs
        split at hs
        ·
          rename_i htk
          simp only [Bool.and_eq_true, Bool.not_eq_true'] at htk
          obtain ⟨⟨_, hok⟩, hown⟩ := htk
          subst hok
          have : ∃ l, v = .list true l := by
            unfold isOwn at hown
            split at hown
            · exact ⟨_, rfl⟩
            · simp at hown
          obtain ⟨l, rfl⟩ := this
          simp only [Option.some.injEq, Prod.mk.injEq] at hs
          obtain ⟨rfl, rfl⟩ := hs
          obtain ⟨hvr, hroom⟩ := hmr
          obtain ⟨G', hG, hroom'⟩ := Room.give (key' := keyD (cDst vs o.dst) j) hroom
          have hgg : G'.box = G.box ∧ G'.fix = G.fix ∧ G'.heap = G.heap := by
            rcases hG with rfl | ⟨b, _, rfl⟩ <;> exact ⟨rfl, rfl, rfl⟩
          have hext : Ext w G w G' := by
            rcases hG with rfl | ⟨b, hb, rfl⟩
            · exact Ext.refl _ _
            · exact give_ext b _ (fun _ => by simp [hb])
          have hkeep : Keep (fun k => k = .hcell n i) w G w G' := by
            rcases hG with rfl | ⟨b, hb, rfl⟩
            · exact ⟨fun b k h _ => ⟨h, rfl, fun _ h => h⟩, fun _ _ h => h⟩
            · exact give_keep b _ (fun k' hk' => by rw [hb] at hk'; simpa using hk'.symm)
          have hf1 : FI N w G' (hset st n (.map (es.modify i fun e => (e.1, dem e.2)))) a vs (lmap vs ops) := by
            refine ⟨hf.len, fun i' t' u' h1 h2 => (hf.var i' t' u' h1 h2).keep hext hkeep (by simp) (by simp), fun i' t' u' h1 h2 => (hf.loc i' t' u' h1 h2).keep hext hkeep (by simp) (by simp), hf.tv, hf.tl, (hf.defers.trans hext.df.symm), by rw [hgg.1]; exact hf.gen, ?_, by rw [hgg.2.1]; exact hf.fixlt, ?_, ?_⟩
            · intro b' k hb'
              rcases hG with rfl | ⟨b2, hb2, rfl⟩
              · exact hf.owlt _ _ hb'
              · simp only [GS.give] at hb'
                split at hb'
                · subst_vars; exact hf.owlt _ _ hb2
                · exact hf.owlt _ _ hb'
            · refine hf.heap.keepBut hext hkeep (fun n' k hne => ⟨by simp, by simp; omega⟩) (fun _ => ?_)
              refine .inr ⟨b, hext.heap _ _ hb, (hkeep.1 _ _ ho1 (by simp)).1, mes, clock, a1, by simpa using a2, a3, a4, ?_⟩
              intro i' e' p' he' hp'
              rw [List.getElem?_modify] at hp'
              by_cases hii : i = i'
              · subst hii
                rw [h4] at hp'
                simp at hp'; subst hp'
                have : e' = en := by rw [← Array.getElem?_toList] at he'; rw [h3] at he'; simpa using he'.symm
                subst this
                obtain ⟨b1, b2⟩ := a5 i e' (p1, .list true l) he' h4
                exact ⟨b1.ext hext, (b2.1.dem).ext hext, trivial⟩
              · simp only [hii, if_false, Option.map_eq_map] at hp'
                have hp'' : es[i']? = some p' := by simpa using hp'
                obtain ⟨b1, b2⟩ := a5 i' e' p' he' hp''
                exact ⟨b1.ext hext, b2.keep hext hkeep (by simp; omega)⟩
            · rw [hgg.2.2]; simp only [hset, List.length_set]; exact hf.hdom
          unfold Oper.wp
          rw [hrun]
          exact hk _ _ G' (hf1.put nm (cDst_ok ho) ⟨hvr.ext hext, hroom'⟩) hext (put_size _ _ _)
        · simp only [Option.some.injEq, Prod.mk.injEq] at hs
          obtain ⟨rfl, rfl⟩ := hs
          have hdv : VR N w G.fix G.heap en.val (dem v) := hmr.1.dem
          cases ok with
          | true =>
            refine wp_value nm ho hf hrun (SR.of_pure (.tuple _ _ rfl ?_) rfl) hk
            intro i c p hc hp
            match i, hc, hp with
            | 0, hc, hp => simp at hc hp; subst hc hp; exact hdv
            | 1, hc, hp => simp at hc hp; subst hc hp; exact .bool _
          | false => exact wp_value nm ho hf hrun (SR.of_pure hdv hmr.1.cp_dem') hk
  · simp at hs
theorem map_write {b : Nat} (hb : b < w.heap.size) (hold : ∃ mes clock, w.heap[b]? = some (.map mes clock)) (hfx : G.ow b ≠ none) (mes' : Array MapEntry) (clock' : Nat) :
    let w' : World := { w with heap := w.heap.setIfInBounds b (.map mes' clock') }
    Ext w G w' G ∧ w'.heap[b]? = some (.map mes' clock') ∧ ∀ x, x ≠ b → w'.heap[x]? = w.heap[x]? := by
  intro w'
  have hsame : ∀ x, x ≠ b → w'.heap[x]? = w.heap[x]? := fun x hx => by simp [w', Array.getElem?_setIfInBounds, Ne.symm hx]
  have hnew : w'.heap[b]? = some (.map mes' clock') := by simp [w', Array.getElem?_setIfInBounds, hb]
  refine ⟨⟨rfl, rfl, rfl, by simp [w'], ?_, ?_, fun _ _ h => .inl h, fun _ h => .inr h, fun _ _ h => h, .one b (fun k _ hk => hsame k hk) (fun s hx => by obtain ⟨mes, clock, h⟩ := hold; simp [World.shape?, h] at hx) (fun s hx => by obtain ⟨mes, clock, h⟩ := hold; simp [loopOf, h] at hx), rfl⟩, hnew, hsame⟩
  · intro x _ hx
    exact hsame x (by rintro rfl; exact hfx hx)
  · intro x o hx
    refine ⟨hx, ?_⟩
    by_cases hxb : x = b
    · subst hxb
      obtain ⟨mes, clock, h⟩ := hold
      simp only [World.cell?, hnew, h]
    · simp only [World.cell?, hsame x hxb]
theorem mset_sound (hE : EnvOk E N) (nm : Names vs (lmap vs ops)) (ho : ops[j]? = some o) (hf : FI N w G st a vs (lmap vs ops)) {t kt e : TypeId} {m x y : Operand} {kk : Bool × List EK} {pm px py : PX}
    (hop : o.op = .mapUpdate t m x y ∨ o.op = .insert t m x y) (hdst : o.dst = none) (hu : P.underlying t = some (.map kt e)) (hkk : keyT P kt = some kk) (hm : cx E vs ops m = some pm) (hx : cx E vs ops x = some px) (hy : cx E vs ops y = some py) {cf : CallF}
    (hs : hopv cf (.mset kk.1 kk.2 pm px py) st = some (u, st1)) (hk : Goes N w G a st1 u vs ops j o next) : o.wp P a w next Q := by
  simp only [hopv] at hs
  split at hs
  · rename_i n k v st' hrm hrk htk
    have hkv := (rd_sound hE hx hf hrk).1
    have hmv := (rd_sound hE hm hf hrm).1
    simp only [Option.bind_eq_some_iff, Option.map_eq_some_iff] at hs
    obtain ⟨es, hg, r, hfi, hs⟩ := hs
    generalize hmval : a.eval m = mv at hmv
    cases hmv with
    | map _ b hb =>
      let idx : Nat := match r with | some (i, _) => i | none => es.length
      obtain ⟨G1, hf1, hext1, hbox1, hfix1, hheap1, hvr, htaken, _, _, _⟩ := tk_sound hE hy hf htk (.hcell n idx)
      have hb1 : G1.heap n = some b := by rw [hheap1]; exact hb
      obtain ⟨ho1, hgn, hobj⟩ := map_open hf1 hg hb1
      obtain ⟨mes, clock, a1, a2, a3, a4, a5⟩ := hobj
      have hkv1 : VR N w G1.fix G1.heap (a.eval x) k := by rw [hfix1, hheap1]; exact hkv
      have hvr1 : VR N w G1.fix G1.heap (a.eval y) v := by rw [hfix1, hheap1]; exact hvr
      have hmr1 : MR N w G1 (.hcell n idx) (a.eval y) v := by
        refine ⟨hvr1, ?_⟩
        split
        · exact htaken
        · trivial
      have hblt : b < w.heap.size := hf1.owlt _ _ ho1
      have hput : a.put o.dst undef = a := by simp [hdst, Act.put]
      have hdn : cDst vs o.dst = .n := by simp [hdst, cDst]
      have finish : ∀ (mes' : Array MapEntry) (clock' : Nat) (es' : List (PV × PV)), (execOp a.eval o).run P w = .ok .skip { w with heap := w.heap.setIfInBounds b (.map mes' clock') } → mes'.size = es'.length →
          (∀ (i : Nat) (e : MapEntry), mes'[i]? = some e → e.born < clock') → (∀ (i i' : Nat) (e e' : MapEntry), mes'[i]? = some e → mes'[i']? = some e' → e.born = e'.born → i = i') →
          (∀ (i : Nat) (e : MapEntry) (p : PV × PV), mes'[i]? = some e → es'[i]? = some p → VR N w G1.fix G1.heap e.key p.1 ∧ MR N w G1 (.hcell n i) e.val p.2) → u = .dead → st1 = hset st' n (.map es') → o.wp P a w next Q := by
        intro mes' clock' es' hrun b2 b3 b4 b5 hu' hst1
        subst hu' hst1
        obtain ⟨hext2, hnew, hother⟩ := map_write (G := G1) hblt ⟨mes, clock, a1⟩ (by rw [ho1]; simp) mes' clock'
        unfold Oper.wp
        rw [hrun]
        have hkeep2 : Keep (fun k => k = .hobj n) w G1 { w with heap := w.heap.setIfInBounds b (.map mes' clock') } G1 := by
          refine ⟨?_, fun _ _ h => h⟩
          intro x k hxk hnk
          refine ⟨hxk, hother x ?_, fun _ h => h⟩
          rintro rfl
          rw [ho1] at hxk
          simp at hxk
          exact hnk hxk.symm
        have hf2 : FI N { w with heap := w.heap.setIfInBounds b (.map mes' clock') } G1 (hset st' n (.map es')) a vs (lmap vs ops) := by
          refine ⟨hf1.len, fun i t' u' h1 h2 => (hf1.var i t' u' h1 h2).keep hext2 hkeep2 (by simp) (by simp), fun i t' u' h1 h2 => (hf1.loc i t' u' h1 h2).keep hext2 hkeep2 (by simp) (by simp), hf1.tv, hf1.tl, hf1.defers, hf1.gen, ?_, ?_, ?_, ?_⟩
          · intro x k hx; simpa using hf1.owlt x k hx
          · intro x o' hx; simpa using hf1.fixlt x o' hx
          · refine hf1.heap.keepBut hext2 hkeep2 (fun n' k hne => ⟨by simp; omega, by simp⟩) (fun _ => ?_)
            refine .inr ⟨b, hb1, ho1, mes', clock', hnew, b2, b3, b4, ?_⟩
            intro i en p hi hp
            obtain ⟨c1, c2⟩ := b5 i en p hi hp
            exact ⟨c1.ext hext2, c2.keep hext2 hkeep2 (by simp)⟩
          · simp only [hset, List.length_set]; exact hf1.hdom
        show next (a.put o.dst undef) _
        rw [hput]
        refine hk _ _ G1 ?_ (hext1.trans hext2) rfl
        rw [hdn]
        exact hf2
      have hop' : ∀ w', (Instr.mapUpdate t (.map (some b)) (a.eval x) (a.eval y)).run P w = .ok () w' → (execOp a.eval o).run P w = .ok .skip w' := by
        intro w' h
        rcases hop with hop | hop <;> simp [execOp, hop, hmval, h]
      rcases findK_sound hkk hkv1 (mes := mes.toList) (es := es) (by simpa using a2) (fun i e p h1 h2 => (a5 i e p (by simpa using h1) h2).1) hfi with ⟨rfl, h2⟩ | ⟨i, v', en, p1, rfl, h2, h3, h4, h5⟩
      ·
        simp only [Prod.mk.injEq] at hs
        obtain ⟨rfl, rfl⟩ := hs
        refine finish (mes.push { key := a.eval x, val := a.eval y, born := clock }) (clock + 1) (es ++ [(k, v)]) (hop' _ ?_) (by simp [a2]) ?_ ?_ ?_ rfl rfl
        · simp only [Instr.mapUpdate, Sem.run_bind, run_underlying hu, Result.andThen_ok, run_getObj_map a1, run_checkKeyK hkk hkv1 hfi, h2, run_setObj_map _ a1]
        · intro i e' he'
          rw [Array.getElem?_push] at he'
          split at he'
          · simp at he'; subst he'; simp
          · have := a3 i e' he'; omega
        · intro i i' e' e'' he' he'' hborn
          rw [Array.getElem?_push] at he' he''
          split at he' <;> split at he''
          · omega
          · simp at he'; subst he'
            have := a3 i' e'' he''; simp at hborn; omega
          · simp at he''; subst he''
            have := a3 i e' he'; simp at hborn; omega
          · exact a4 i i' e' e'' he' he'' hborn
        · intro i e' p he' hp
          rw [Array.getElem?_push] at he'
          split at he'
          · rename_i hi
            simp at he'; subst he'
            rw [List.getElem?_append_right (by omega)] at hp
            have : i - es.length = 0 := by omega
            rw [this] at hp
            simp at hp; subst hp
            refine ⟨hkv1, ?_⟩
            have hidx : idx = i := by show es.length = i; omega
            rw [hidx] at hmr1
            exact hmr1
          · have hi : i < es.length := by have := (Array.getElem?_eq_some_iff.1 he').1; omega
            rw [List.getElem?_append_left hi] at hp
            exact a5 i e' p he' hp
      ·
        simp only [Prod.mk.injEq] at hs
        obtain ⟨rfl, rfl⟩ := hs
        have hidx : idx = i := by show i = i; rfl
        rw [hidx] at hmr1
        have hlt : i < mes.size := by have := (List.getElem?_eq_some_iff.1 h3).1; simpa using this
        have hen : mes[i]? = some en := by rw [← Array.getElem?_toList]; exact h3
        have hbits : Instr.sameBits 10000 en.key (a.eval x) = true := same_bitsK hkv1 (a5 i en (p1, v') hen h4).1 h5 9999
        refine finish (mes.modify i fun e => { e with key := a.eval x, val := a.eval y }) clock (es.set i (k, v)) (hop' _ ?_) (by simp [a2]) ?_ ?_ ?_ rfl rfl
        · simp only [Instr.mapUpdate, Sem.run_bind, run_underlying hu, Result.andThen_ok, run_getObj_map a1, run_checkKeyK hkk hkv1 hfi, h2, hen, Option.map_some, Option.getD_some, Instr.keyThatStays, hbits, if_true, Sem.run_pure, run_setObj_map _ a1]
        · intro i' e' he'
          rw [Array.getElem?_modify] at he'
          split at he'
          · simp only [Option.map_eq_some_iff] at he'
            obtain ⟨e2, h6, rfl⟩ := he'
            exact a3 i' e2 h6
          · exact a3 i' e' he'
        · have hb' : ∀ (i' : Nat) (e' : MapEntry), (mes.modify i fun e => { e with key := a.eval x, val := a.eval y })[i']? = some e' → ∃ e2 : MapEntry, mes[i']? = some e2 ∧ e2.born = e'.born := by
            intro i' e' he'
            rw [Array.getElem?_modify] at he'
            split at he'
            · simp only [Option.map_eq_some_iff] at he'
              obtain ⟨e2, h6, rfl⟩ := he'
              exact ⟨e2, h6, rfl⟩
            · exact ⟨e', he', rfl⟩
          intro i1 i2 e1 e2 he1 he2 hborn
          obtain ⟨f1, g1, g2⟩ := hb' i1 e1 he1
          obtain ⟨f2, g3, g4⟩ := hb' i2 e2 he2
          exact a4 i1 i2 f1 f2 g1 g3 (by rw [g2, g4, hborn])
        · intro i' e' p he' hp
          rw [Array.getElem?_modify] at he'
          rw [List.getElem?_set] at hp
          split at he'
          · rename_i hii
            subst hii
            rw [if_pos rfl] at hp
            split at hp
            · simp at hp; subst hp
              rw [hen] at he'
              simp at he'; subst he'
              exact ⟨hkv1, hmr1⟩
            · simp at hp
          · rename_i hii
            rw [if_neg hii] at hp
            exact a5 i' e' p he' hp
  · simp at hs
theorem mlen_sound (hE : EnvOk E N) (nm : Names vs (lmap vs ops)) (ho : ops[j]? = some o) (hf : FI N w G st a vs (lmap vs ops)) {t kt e : TypeId} {ts : Array TypeId} {x : Operand} {px : PX} (hop : o.op = .call { callee := .builtin .len, args := #[x], argTypes := ts })
    (h0 : ts[0]? = some t) (hu : P.underlying t = some (.map kt e)) (hx : cx E vs ops x = some px) {cf : CallF} (hs : hopv cf (.mlen px) st = some (u, st1)) (hk : Goes N w G a st1 u vs ops j o next) : o.wp P a w next Q := by
  simp only [hopv] at hs
  split at hs
  · rename_i n hp
    simp only [Option.map_eq_some_iff, Prod.mk.injEq] at hs
    obtain ⟨es, hg, rfl, rfl⟩ := hs
    have h := (rd_sound hE hx hf hp).1
    generalize hv : a.eval x = v at h
    refine wp_value nm ho hf ?_ (SR.of_pure (.int _ _) rfl) hk
    cases h with
    | mapn =>
      simp only [mget, Option.some.injEq] at hg
      subst hg
      simp only [execOp, hop, resolve, Sem.run_bind, Sem.run_pure, Result.andThen_ok, invoke, builtin, Builtin.len_, h0, List.map_toArray, List.map_cons, List.map_nil, hv, List.getElem?_toArray, List.getElem?_cons_zero, run_underlying hu, goInt]
      rfl
    | map n b hb =>
      obtain ⟨_, _, mes, clock, a1, a2, _⟩ := map_open hf hg hb
      simp only [execOp, hop, resolve, Sem.run_bind, Sem.run_pure, Result.andThen_ok, invoke, builtin, Builtin.len_, h0, List.map_toArray, List.map_cons, List.map_nil, hv, List.getElem?_toArray, List.getElem?_cons_zero, run_underlying hu, goInt, run_getObj_map a1, a2]
  · simp at hs
theorem capt_sound (hE : EnvOk E N) {x : Operand} {px : PX} (hc : cx E vs ops x = some px) (hf : FI N w G st a vs (lmap vs ops)) (ht : capt st px = some (u, st1)) :
    ∃ G', FI N w G' st1 a vs (lmap vs ops) ∧ Ext w G w G' ∧ VR N w G'.fix G'.heap (a.eval x) u := by
  by_cases hloc : ∃ i g cs, px = .v i ∧ raw st px = some (.loc g cs)
  · obtain ⟨i, g, cs, rfl, hr⟩ := hloc
    simp only [capt, hr, Option.some.injEq, Prod.mk.injEq] at ht
    obtain ⟨rfl, rfl⟩ := ht
    have hs := raw_sound hE hc hf hr
    obtain ⟨b, i', hk, hv, hb, ho, hnf, cv, T, hh, hl, hcr⟩ := hs
    simp only [keyX, Key.var.injEq] at hk
    subst hk
    have hblt := hf.owlt _ _ ho
    let G' : GS := { G with fix := fun b' o => G.fix b' o ∨ (b' = b ∧ o < cs.length), ow := fun b' => if b' = b then none else G.ow b' }
    have hext : Ext w G w G' := by
      refine ⟨rfl, rfl, rfl, Nat.le_refl _, fun _ _ _ => rfl, fun _ _ h => ⟨.inl h, rfl⟩, ?_, ?_, fun _ _ h => h, ShapeLe.refl w, rfl⟩
      · rintro b' o (h | ⟨rfl, _⟩)
        · exact .inl h
        · refine .inr (.inr ?_)
          rw [show G.ow b' = some (keyX (.v i)) from ho]; simp
      · intro b' h
        simp only [G'] at h
        split at h
        · simp at h
        · exact .inr h
    have hkeep : Keep (fun k => k = .var i) w G w G' := by
      refine ⟨?_, fun _ _ h => h⟩
      intro b' k hb' hn
      have hne : b' ≠ b := by rintro rfl; rw [show G.ow b' = some (keyX (.v i)) from ho] at hb'; simp [keyX] at hb'; exact hn hb'.symm
      refine ⟨by simp only [G']; rw [if_neg hne]; exact hb', rfl, ?_⟩
      rintro o (h | ⟨h, _⟩)
      · exact h
      · exact absurd h hne
    have hvr : VR N w G'.fix G'.heap (a.eval x) (.cptr (cs.map dem)) := by
      rw [hv]
      refine .cptr b 0 (cs.map dem) (fun k => cv.getD k undef) ?_ ?_ ?_
      · intro y hy
        obtain ⟨z, hz, rfl⟩ := List.mem_map.1 hy
        obtain ⟨k, hk⟩ := List.mem_iff_getElem?.1 hz
        have hlt : k < cv.size := by have := (List.getElem?_eq_some_iff.1 hk).1; omega
        rw [flat_dem]
        exact (hcr k cv[k] z (by simp [hlt]) hk).2.1
      · intro k hk
        simp only [List.length_map] at hk
        have hlt : k < cv.size := by omega
        refine ⟨?_, .inr ⟨rfl, by omega⟩⟩
        simp [World.cell?, hh, hlt]
      · intro k y hy
        simp only [List.getElem?_map, Option.map_eq_some_iff] at hy
        obtain ⟨z, hz, rfl⟩ := hy
        have hlt : k < cv.size := by have := (List.getElem?_eq_some_iff.1 hz).1; omega
        have := (hcr k cv[k] z (by simp [hlt]) hz).1
        simp only [Array.getD_eq_getD_getElem?, Array.getElem?_eq_getElem hlt, Option.getD_some]
        exact this.dem.ext hext
    have hx : ∃ t, vs[i]? = some t ∧ a.eval (.tmp t) = a.eval x := by
      cases x with
      | tmp t =>
        simp only [cx] at hc
        split at hc
        · rename_i i2 hi
          simp at hc; subst hc
          obtain ⟨_, h2⟩ := idxIn_some hi
          exact ⟨t, by simpa using h2, rfl⟩
        · simp at hc
      | const v => simp [cx] at hc
      | global g => simp [cx] at hc
      | func f => simp [cx] at hc
    obtain ⟨tx, ht1, ht2⟩ := hx
    refine ⟨G', ?_, hext, hvr⟩
    refine ⟨by simp [hf.len], ?_, fun j' t' u' h1 h2 => (hf.loc j' t' u' h1 h2).keep hext hkeep (by simp) (by simp), hf.tv, hf.tl, hf.defers, hf.gen, ?_, ?_, hf.heap.keep hext hkeep (by rintro k hk rfl; simp [Key.isH] at hk), hf.hdom⟩
    · intro i' t' u' h1 h2
      simp only [List.getElem?_set] at h2
      split at h2
      · rename_i hi
        subst hi
        split at h2
        · simp at h2; subst h2
          have : t' = tx := by rw [ht1] at h1; simpa using h1.symm
          subst this
          exact SR.of_pure (ht2 ▸ hvr) rfl
        · simp at h2
      · rename_i hi
        exact (hf.var i' t' u' h1 h2).keep hext hkeep (by simp; omega) (by simp)
    · intro b' k h
      simp only [G'] at h
      split at h
      · simp at h
      · exact hf.owlt _ _ h
    · rintro b' o (h | ⟨rfl, _⟩)
      · exact hf.fixlt _ _ h
      · exact hblt
  · have hcp : capt st px = (rd st px).map (·, st) := by
      unfold capt
      split
      · rename_i i g cs h; exact absurd ⟨i, g, cs, rfl, h⟩ hloc
      · rfl
    rw [hcp] at ht
    simp only [Option.map_eq_some_iff, Prod.mk.injEq] at ht
    obtain ⟨r, hr, rfl, rfl⟩ := ht
    exact ⟨G, hf, Ext.refl _ _, (rd_sound hE hc hf hr).1⟩
theorem capts_sound (hE : EnvOk E N) : ∀ {xs : List Operand} {pxs : List PX} {G : GS} {st st1 : St} {us : List PV}, cxs E vs ops xs = some pxs → FI N w G st a vs (lmap vs ops) → capts st pxs = some (us, st1) →
    ∃ G', FI N w G' st1 a vs (lmap vs ops) ∧ Ext w G w G' ∧ xs.length = us.length ∧ ∀ (i : Nat) (x : Operand) (u : PV), xs[i]? = some x → us[i]? = some u → VR N w G'.fix G'.heap (a.eval x) u
  | [], pxs, G, st, st1, us, hc, hf, h => by
    simp [cxs] at hc; subst hc
    simp only [capts, Option.some.injEq, Prod.mk.injEq] at h
    obtain ⟨rfl, rfl⟩ := h
    exact ⟨G, hf, Ext.refl _ _, rfl, by simp⟩
  | x :: xs, pxs, G, st, st1, us, hc, hf, h => by
    simp only [cxs, Option.bind_eq_some_iff, Option.map_eq_some_iff] at hc
    obtain ⟨p, hp, ps, hps, rfl⟩ := hc
    simp only [capts, Option.bind_eq_some_iff, Option.map_eq_some_iff, Prod.mk.injEq] at h
    obtain ⟨⟨v, st2⟩, h1, ⟨q, st3⟩, h2, rfl, rfl⟩ := h
    obtain ⟨G1, f1, e1, v1⟩ := capt_sound hE hp hf h1
    obtain ⟨G2, f2, e2, l2, v2⟩ := capts_sound hE hps f1 h2
    refine ⟨G2, f2, e1.trans e2, by simp [l2], ?_⟩
    intro i y z hy hz
    cases i with
    | zero => simp at hy hz; subst hy hz; exact v1.ext e2
    | succ i => exact v2 i y z (by simpa using hy) (by simpa using hz)
theorem mkfunc_sound (hE : EnvOk E N) (nm : Names vs (lmap vs ops)) (ho : ops[j]? = some o) (hf : FI N w G st a vs (lmap vs ops)) {f : FuncId} {k : Nat} {xs ys : Array Operand} {ps qs : List PX} (hop : o.op = .makeFunc (.func f) xs ys) (hk' : E.inv f = some k)
    (hx : cxs E vs ops xs.toList = some ps) (hy : cxs E vs ops ys.toList = some qs) {cf : CallF} (hs : hopv cf (.mkfunc k ps qs) st = some (u, st1)) (hk : Goes N w G a st1 u vs ops j o next) : o.wp P a w next Q := by
  simp only [hopv, Option.bind_eq_some_iff, Option.map_eq_some_iff, Prod.mk.injEq] at hs
  obtain ⟨⟨us, st2⟩, h1, ⟨zs, st3⟩, h2, rfl, rfl⟩ := hs
  obtain ⟨G1, f1, e1, l1, v1⟩ := capts_sound hE hx hf h1
  obtain ⟨G2, f2, e2, l2, v2⟩ := capts_sound hE hy f1 h2
  have hfn := hE.fn _ _ hk'
  have hfy := hE.yl _ _ hk'
  unfold Oper.wp
  have hrun : (execOp a.eval o).run P w = .ok (.value (.func (.func f) (xs.map a.eval) (ys.map a.eval))) w := by
    simp [execOp, hop, Instr.makeFunc]
  rw [hrun]
  refine hk _ _ G2 (f2.put nm (cDst_ok ho) (SR.of_pure ?_ rfl)) (e1.trans e2) (put_size _ _ _)
  subst hfn
  refine .func k _ _ us zs hfy (by simpa using l1) (by simpa using l2) ?_ ?_
  · intro i c p hc hp
    simp only [Array.getElem?_map, Option.map_eq_some_iff] at hc
    obtain ⟨x, hx', rfl⟩ := hc
    exact (v1 i x p (by simpa using hx') hp).ext e2
  · intro i c p hc hp
    simp only [Array.getElem?_map, Option.map_eq_some_iff] at hc
    obtain ⟨x, hx', rfl⟩ := hc
    exact v2 i x p (by simpa using hx') hp
theorem equal_nil {t : TypeId} {v c : Value} {b : Bool} (h : (Op.equalIn 10000 t v c).run P w = .ok b w) (op : BinOp) (hop : op = .eql ∨ op = .neq) (x y : Operand)
    (hg : (eqGuard op t x y v c).run P w = .ok () w) (hb1 : binOp .eql t v c = (do let r ← Op.equal t v c; pure (.bool r))) (hb2 : binOp .neq t v c = (do let r ← Op.equal t v c; pure (.bool !r))) :
    (do eqGuard op t x y v c; binOp op t v c : Sem Value).run P w = .ok (.bool (if op == .neq then !b else b)) w := by
  have h' : (Op.equal t v c).run P w = .ok b w := h
  rcases hop with rfl | rfl
  · simp only [Sem.run_bind, hg, Result.andThen_ok, hb1, h', Sem.run_pure]; rfl
  · simp only [Sem.run_bind, hg, Result.andThen_ok, hb2, h', Sem.run_pure]; rfl
theorem eqn_slice {t e : TypeId} (hu : P.underlying t = some (.slice e)) (ad : Option Addr) (l c : Nat) : (Op.equalIn 10000 t (.slice ad l c) (.slice none 0 0)).run P w = .ok ad.isNone w := by
  unfold Op.equalIn
  simp only [Sem.run_bind, run_underlying hu, Result.andThen_ok]
  cases ad <;> rfl
theorem eqn_ptr {t e : TypeId} (hu : P.underlying t = some (.pointer e)) (ad : Option Addr) : (Op.equalIn 10000 t (.pointer ad) (.pointer none)).run P w = .ok ad.isNone w := by
  unfold Op.equalIn
  simp only [Sem.run_bind, run_underlying hu, Result.andThen_ok]
  cases ad <;> rfl
theorem eqn_map {t k e : TypeId} (hu : P.underlying t = some (.map k e)) (r : Option Nat) : (Op.equalIn 10000 t (.map r) (.map none)).run P w = .ok r.isNone w := by
  unfold Op.equalIn
  simp only [Sem.run_bind, run_underlying hu, Result.andThen_ok]
  cases r <;> rfl
theorem eqn_iface {t : TypeId} {ms : Array (String × TypeId)} (hu : P.underlying t = some (.interface ms)) (v : Value) (b : Bool) (h : (v = .nilIface ∧ b = true) ∨ (∃ t' x, v = .iface t' x) ∧ b = false) : (Op.equalIn 10000 t v .nilIface).run P w = .ok b w := by
  unfold Op.equalIn
  simp only [Sem.run_bind, run_underlying hu, Result.andThen_ok]
  rcases h with ⟨rfl, rfl⟩ | ⟨⟨t', x, rfl⟩, rfl⟩ <;> rfl
theorem isnil_sound (hE : EnvOk E N) (nm : Names vs (lmap vs ops)) (ho : ops[j]? = some o) (hf : FI N w G st a vs (lmap vs ops)) {op : BinOp} {t t' : TypeId} {x y : Operand} {px : PX} {kd : Nat} (hop : o.op = .binOp op t x y t')
    (hop2 : op = .eql ∨ op = .neq) (ht : nilT P t y = some kd) (hx : cx E vs ops x = some px) {cf : CallF} (hs : hopv cf (.isnil kd (op == .neq) px) st = some (u, st1)) (hk : Goes N w G a st1 u vs ops j o next) : o.wp P a w next Q := by
  simp only [hopv, Option.map_eq_some_iff, Option.bind_eq_some_iff, Prod.mk.injEq] at hs
  obtain ⟨b, ⟨p, hp, hb⟩, rfl, rfl⟩ := hs
  have hv := (rd_sound hE hx hf hp).1
  refine wp_value nm ho hf ?_ (SR.of_pure (.bool _) rfl) hk
  have hguard : ∀ v c : Value, (∀ cs, v ≠ .agg cs) → v ≠ .nilIface → (eqGuard op t x y v c).run P w = .ok () w := by
    intro v c h1 h2
    rcases hop2 with rfl | rfl <;> cases v <;> cases c <;> first | rfl | exact absurd rfl h2 | exact absurd rfl (h1 _)
  have key : (do eqGuard op t x y (a.eval x) (a.eval y); binOp op t (a.eval x) (a.eval y) : Sem Value).run P w = .ok (.bool (if op == .neq then !b else b)) w := by
    unfold nilT at ht
    split at ht <;> simp only [Option.some.injEq, reduceCtorEq] at ht <;> subst ht
    · rename_i hu
      have hform : ∃ ad l c, a.eval x = .slice ad l c ∧ ad.isNone = b := by
        generalize a.eval x = v at hv
        unfold nilness at hb
        split at hb <;> simp only [Option.some.injEq, reduceCtorEq] at hb <;> subst hb <;> (try (rename_i h0; simp at h0)) <;> cases hv <;> first | exact ⟨_, _, _, rfl, rfl⟩ | simp_all
      obtain ⟨ad, l, c, hx', rfl⟩ := hform
      rw [hx']
      exact equal_nil (eqn_slice hu ad l c) op hop2 x _ (hguard _ _ (by simp) (by simp)) rfl rfl
    · rename_i hu
      have hform : ∃ ad, a.eval x = .pointer ad ∧ ad.isNone = b := by
        generalize a.eval x = v at hv
        unfold nilness at hb
        split at hb <;> simp only [Option.some.injEq, reduceCtorEq] at hb <;> subst hb <;> (try (rename_i h0; simp at h0)) <;> cases hv <;> exact ⟨_, rfl, rfl⟩
      obtain ⟨ad, hx', rfl⟩ := hform
      rw [hx']
      exact equal_nil (eqn_ptr hu ad) op hop2 x _ (hguard _ _ (by simp) (by simp)) rfl rfl
    · rename_i hu
      have hform : ∃ ad, a.eval x = .map ad ∧ ad.isNone = b := by
        generalize a.eval x = v at hv
        unfold nilness at hb
        split at hb <;> simp only [Option.some.injEq, reduceCtorEq] at hb <;> subst hb <;> (try (rename_i h0; simp at h0)) <;> cases hv <;> exact ⟨_, rfl, rfl⟩
      obtain ⟨ad, hx', rfl⟩ := hform
      rw [hx']
      exact equal_nil (eqn_map hu ad) op hop2 x _ (hguard _ _ (by simp) (by simp)) rfl rfl
    · rename_i hu
      have hform : (a.eval x = .nilIface ∧ b = true) ∨ (∃ t' z, a.eval x = .iface t' z) ∧ b = false := by
        generalize a.eval x = v at hv
        unfold nilness at hb
        split at hb <;> simp only [Option.some.injEq, reduceCtorEq] at hb <;> subst hb <;> (try (rename_i h0; simp at h0)) <;> cases hv <;> first | exact .inl ⟨rfl, rfl⟩ | exact .inr ⟨⟨_, _, rfl⟩, rfl⟩
      have hg : (eqGuard op t x (.const .nilIface) (a.eval x) .nilIface).run P w = .ok () w := by
        rcases hform with ⟨h, _⟩ | ⟨⟨t', z, h⟩, _⟩ <;> rw [h] <;> rcases hop2 with rfl | rfl <;> simp [eqGuard]
      have he := eqn_iface (P := P) (w := w) hu _ _ hform
      refine equal_nil he op hop2 x _ hg ?_ ?_ <;> (rcases hform with ⟨h, _⟩ | ⟨⟨t', z, h⟩, _⟩ <;> rw [h] <;> rfl)
  simp only [execOp, hop, Sem.run_bind, key, Result.andThen_ok, Sem.run_pure]
theorem loadc_sound (hE : EnvOk E N) (nm : Names vs (lmap vs ops)) (ho : ops[j]? = some o) (hf : FI N w G st a vs (lmap vs ops)) {t : TypeId} {n : Nat} {x : Operand} {px : PX} (hop : o.op = .load t x) (hn : sizeT P t = some n)
    (hx : cx E vs ops x = some px) {cf : CallF} (hs : hopv cf (.loadc n (isAggT P t) px) st = some (u, st1)) (hk : Goes N w G a st1 u vs ops j o next) : o.wp P a w next Q := by
  simp only [hopv] at hs
  split at hs
  · rename_i cs ha
    simp only [Option.map_eq_some_iff, Prod.mk.injEq] at hs
    obtain ⟨r, hr, rfl, rfl⟩ := hs
    obtain ⟨r', h1, h2, h3⟩ := load_cptr (P := P) hn (rd_sound hE hx hf ha).1 hr
    exact wp_value nm ho hf (by simp [execOp, hop, h1]) (SR.of_pure h2 h3) hk
  · simp at hs
theorem nilchk_sound (hE : EnvOk E N) (nm : Names vs (lmap vs ops)) (ho : ops[j]? = some o) (hf : FI N w G st a vs (lmap vs ops)) {x : Operand} {px : PX} (hop : o.op = .nilCheck x)
    (hx : cx E vs ops x = some px) {cf : CallF} (hs : hopv cf (.nilchk px) st = some (u, st1)) (hk : Goes N w G a st1 u vs ops j o next) : o.wp P a w next Q := by
  have run : ∀ ad, a.eval x = .pointer (some ad) → (execOp a.eval o).run P w = .ok (.value (.pointer (some ad))) w := by
    intro ad h
    simp [execOp, hop, h]
  simp only [hopv] at hs
  split at hs
  · rename_i n off ha
    simp only [Option.some.injEq, Prod.mk.injEq] at hs
    obtain ⟨rfl, rfl⟩ := hs
    obtain ⟨b, hv, hb⟩ := addr_ptr hE hx hf ha
    exact wp_value nm ho hf (run _ hv) (SR.of_pure (.ptr _ _ b hb) rfl) hk
  · rename_i cs ha
    simp only [Option.some.injEq, Prod.mk.injEq] at hs
    obtain ⟨rfl, rfl⟩ := hs
    rcases addr_sound hE hx hf ha with ⟨_, _, _, _, h, _⟩ | ⟨h, _⟩
    · simp at h
    · generalize hv : a.eval x = v at h
      have h' := h
      cases h with
      | cptr b off _ cv _ _ _ => exact wp_value nm ho hf (run _ hv) (SR.of_pure h' rfl) hk
  · rename_i s g off ha
    simp only [Option.some.injEq, Prod.mk.injEq] at hs
    obtain ⟨rfl, rfl⟩ := hs
    rcases addr_sound hE hx hf ha with ⟨_, _, _, b, h, hv, hb⟩ | ⟨_, h⟩
    · simp only [PV.lptr.injEq] at h
      obtain ⟨rfl, rfl, rfl⟩ := h
      exact wp_value nm ho hf (run _ hv) (SR.lptr rfl hb) hk
    · simp [cp] at h
  · simp at hs
theorem barr_sound (hE : EnvOk E N) (nm : Names vs (lmap vs ops)) (ho : ops[j]? = some o) (hf : FI N w G st a vs (lmap vs ops)) {t e : TypeId} {n size : Nat} {parts : Array (Nat × Operand)} {z : List PV} {ps : List (Nat × Nat × PX)}
    (hop : o.op = .build t parts) (hu : P.underlying t = some (.array n e)) (hn : sizeT P e = some size) (hz : zeroT P t = some z)
    (hc : cParts E vs ops (fun i => some (i * size, size)) parts.toList = some ps) {cf : CallF} (hs : hopv cf (.barr z ps) st = some (u, st1)) (hk : Goes N w G a st1 u vs ops j o next) : o.wp P a w next Q := by
  simp only [hopv, Option.map_eq_some_iff, Option.bind_eq_some_iff, Prod.mk.injEq] at hs
  obtain ⟨rs, ⟨qs, hq, hset⟩, rfl, rfl⟩ := hs
  obtain ⟨i, zv, hi, hzv, _, _, hR, hO⟩ := zeroT_sound (N := N) (w := w) (fix := G.fix) (hp := G.heap) hz
  obtain ⟨ie, d, hie, hsz, _, _⟩ := info_underlying hn
  obtain ⟨ds, h1, h2, h3⟩ := rdParts_sound hE hf hc hq hset hR hO
  refine wp_value nm ho hf (v := .agg ds) ?_ (SR.of_pure (by simpa using h2.agg h3) rfl) hk
  have hb : P.built t (parts.map fun (i, x) => (i, a.eval x)).toList = some ds := by
    simp only [Program.built, hi, hu, hzv, hie, hsz]
    simpa using h1
  simp [execOp, hop, run_build w t _ ds hb]
theorem idxA_sound (hE : EnvOk E N) (nm : Names vs (lmap vs ops)) (ho : ops[j]? = some o) (hf : FI N w G st a vs (lmap vs ops)) {t e : TypeId} {len n : Nat} {x i : Operand} {px pi : PX} (hop : o.op = .index t x i)
    (hu : P.underlying t = some (.array len e)) (hn : sizeT P e = some n) (hx : cx E vs ops x = some px) (hi : cx E vs ops i = some pi) {cf : CallF}
    (hs : hopv cf (.idxA len n (isAggT P e) px pi) st = some (u, st1)) (hk : Goes N w G a st1 u vs ops j o next) : o.wp P a w next Q := by
  have hn0 : n ≠ 0 := by obtain ⟨_, _, _, _, h, _⟩ := info_underlying hn; exact h
  simp only [hopv] at hs
  split at hs
  · rename_i ps k hps hki
    split at hs
    · rename_i hk2
      simp only [Option.map_eq_some_iff, Prod.mk.injEq] at hs
      obtain ⟨r, hr, rfl, rfl⟩ := hs
      obtain ⟨cs, hv, hR⟩ := CellsR.of_agg (rd_sound hE hx hf hps).1
      obtain ⟨kk, hik⟩ := rdInt_sound hE hi hf hki
      obtain ⟨h1, h2, h3⟩ := loadFrom_sound hR hr hn0 (sizeT_one hn)
      refine wp_value nm ho hf ?_ (SR.of_pure h2 h3) hk
      have hx : (part e cs (k.toNat * n)).run P w = .ok (if isAggT P e then .agg ((cs.toList.drop (k.toNat * n)).take n).toArray else (cs.toList.drop (k.toNat * n)).headD undef) w := by
        simp only [part, Sem.run_bind, run_isAggT hn, Sem.run_ite, run_sizeT hn, Result.andThen_ok, Sem.run_pure]
        by_cases ha : isAggT P e = true
        · simp only [ha, if_true]
          congr 2
          apply Array.ext'
          simp
        · simp only [Bool.not_eq_true] at ha
          have hlt : k.toNat * n < cs.size := by simp at h1; omega
          simp [ha, List.drop_eq_getElem_cons (l := cs.toList) (i := k.toNat * n) (by simpa using hlt), hlt]
      simp [execOp, hop, Instr.index, hik, asIntOf, run_underlying hu, hv, hk2, run_sizeT hn, hx]
    · simp at hs
  · simp at hs
end
end PI
set_option linter.unusedSimpArgs false
set_option linter.unusedVariables false
namespace PI
open Go
section
variable {E : Env} {N : Nm} {w : World} {G : GS} {st : St} {a : Act} {vs : List Tmp} {ops : List Oper} {P : Program}
variable {o : Oper} {j : Nat} {next : Act → World → Prop} {Q : Exit → Act → World → Prop} {u : PV} {st1 : St}
theorem flat_get {α : Type} (l : List α) : ∀ (n k : Nat), (List.replicate n l).flatten[k]? = if k < n * l.length then l[k % l.length]? else none
  | 0, k => by simp
  | n + 1, k => by
    have ih := flat_get l n (k - l.length)
    have e : (n + 1) * l.length = n * l.length + l.length := Nat.succ_mul _ _
    rw [List.replicate_succ, List.flatten_cons, List.getElem?_append, ih, e]
    by_cases hk : k < l.length
    · have : k < n * l.length + l.length := by omega
      simp only [hk, this, Nat.mod_eq_of_lt hk, if_true]
    · have hm : (k - l.length) % l.length = k % l.length := (Nat.mod_eq_sub_mod (by omega)).symm
      by_cases h2 : k - l.length < n * l.length
      · have : k < n * l.length + l.length := by omega
        simp only [hk, h2, this, if_true, if_false, hm]
      · have : ¬ k < n * l.length + l.length := by omega
        simp only [hk, h2, this, if_false]
theorem sameO_eval {x y : Operand} (h : sameO x y = true) {k : IntKind} {n : Int} (hx : a.eval x = .int k n) : ∃ k', a.eval y = .int k' n := by
  unfold sameO at h
  split at h
  · simp at h; subst h; exact ⟨k, hx⟩
  · simp at h; subst h
    simp only [Act.eval] at hx ⊢
    cases hx
    exact ⟨_, rfl⟩
  · simp at h
theorem mkarr_sound (hE : EnvOk E N) (nm : Names vs (lmap vs ops)) (ho : ops[j]? = some o) (hf : FI N w G st a vs (lmap vs ops)) {t e : TypeId} {l c : Operand} {px : PX} {size : Nat} {z : List PV} (hop : o.op = .makeSlice t l c)
    (hu : P.underlying t = some (.slice e)) (hn : sizeT P e = some size) (hz : zeroT P e = some z) (hsame : sameO l c = true) (hx : cx E vs ops l = some px) {cf : CallF} (hs : hopv cf (.mkarr size (isAggT P e) (P.bytesOf e) z px) st = some (u, st1)) (hk : Goes N w G a st1 u vs ops j o next) : o.wp P a w next Q := by
  simp only [hopv] at hs
  split at hs
  · rename_i n hn0
    split at hs
    · rename_i hc
      obtain ⟨h0, hb, hm⟩ := hc
      simp only [Option.some.injEq, Prod.mk.injEq] at hs
      obtain ⟨rfl, rfl⟩ := hs
      obtain ⟨k, hl⟩ := rdInt_sound hE hx hf hn0
      obtain ⟨k', hcv⟩ := sameO_eval hsame hl
      obtain ⟨i, d, hi, hisz, hs0, hd⟩ := info_underlying hn
      obtain ⟨i2, zv, hi2, hzv, _, hzl, hzR, _⟩ := zeroT_sound (N := N) (w := w) (fix := G.fix) (hp := G.heap) hz
      have : i2 = i := by rw [hi] at hi2; simpa using hi2.symm
      subst this
      subst hisz
      have hzs : zv.cells.size = i2.size := by have := hzR.1; simp at this; omega
      have hby : P.bytesOf e = i2.bytes := by simp [Program.bytesOf, hi]
      rw [hby] at hb
      have hrun := run_make (P := P) w t e i2 zv hu hi hzv k k' n n h0 (Int.le_refl _) hb hm
      refine obj_new (mob := .cells (madeCells zv.cells (n.toNat * i2.size)) e) (v := .slice (some ⟨w.heap.size, 0, none⟩) n.toNat n.toNat) nm ho hf ?_ ?_ (fun G' hG hext => obj_cells hf ?_ ?_ hG hext) hk
      · simp [execOp, hop, hl, hcv, hrun]
      · rintro G' rfl
        refine .rowp _ _ _ _ w.heap.size _ (by simp [GS.more]) (Nat.le_refl _) ⟨e, n.toNat * i2.size, ?_, Nat.le_refl _⟩
        simp only [World.shape?, alloc_heap_new, size_madeCells]
      · intro k c x hc hx
        rw [flat_get] at hx
        have hzlen : z.length = i2.size := by have := hzR.1; simp at this; omega
        rw [hzlen] at hx
        split at hx
        · rename_i hlt
          have hmod : k % i2.size < i2.size := Nat.mod_lt _ (by omega)
          have hc' : c = zv.cells[k % i2.size]! := by
            simp only [madeCells, Array.getElem?_map, Option.map_eq_some_iff] at hc
            obtain ⟨a', ha, rfl⟩ := hc
            have : a' = k := by
              obtain ⟨h1, h2⟩ := Array.getElem?_eq_some_iff.1 ha
              simpa using h2.symm
            rw [this, hzs]
          have hcz : zv.cells[k % i2.size]? = some c := by
            rw [hc']
            have : k % i2.size < zv.cells.size := by omega
            simp [this]
          refine ⟨hzR.2.2 _ c x (by simpa using hcz) hx, hzR.2.1 x (List.mem_of_getElem? hx), ?_⟩
          rintro es rfl
          have hz' := hz
          unfold zeroT at hz'
          simp only [hi, hzv, Option.bind_eq_some_iff] at hz'
          obtain ⟨cs', hcs, hz'⟩ := hz'
          split at hz'
          · simp at hz'; subst hz'
            exact constAll_own hcs _ c es (by simpa using hcz) hx
          · simp at hz'
        · simp at hx
      · have hzlen : z.length = i2.size := by have := hzR.1; simp at this; omega
        rw [size_madeCells]
        simp [List.length_flatten, hzlen]
    · simp at hs
  · simp at hs
theorem newbld_sound (hE : EnvOk E N) (hP : E.P = P) (nm : Names vs (lmap vs ops)) (ho : ops[j]? = some o) (hf : FI N w G st a vs (lmap vs ops)) {t : TypeId} (hop : o.op = .alloc t) (hb : E.bT = some t) {cf : CallF}
    (hs : hopv cf .newbld st = some (u, st1)) (hk : Goes N w G a st1 u vs ops j o next) : o.wp P a w next Q := by
  simp only [hopv, Option.some.injEq, Prod.mk.injEq] at hs
  obtain ⟨rfl, rfl⟩ := hs
  obtain ⟨h1, i, h2, h3⟩ := hE.bt t hb
  rw [hP] at h2
  refine obj_new (mob := .cells #[.pointer none, .slice none 0 0] t) (v := .pointer (some ⟨w.heap.size, 0, none⟩)) nm ho hf ?_ ?_ (fun G' hG hext => ?_) hk
  · simp [execOp, hop, Instr.alloc, zeroValue, typeInfo, h2, h3, newVar, newRow, Value.cells]
  · rintro G' rfl
    exact .ptr _ _ w.heap.size (by simp [GS.more])
  · subst hG
    refine ⟨?_, .pointer none, .slice none 0 0, by rw [h1]; exact alloc_heap_new, .inl rfl, .inl ⟨rfl, rfl⟩⟩
    intro o h
    have := hf.fixlt _ _ h
    omega
theorem range_sound (hE : EnvOk E N) (nm : Names vs (lmap vs ops)) (ho : ops[j]? = some o) (hf : FI N w G st a vs (lmap vs ops)) {t : TypeId} {x : Operand} {px : PX} (hop : o.op = .range t x)
    (hu : P.underlying t = some .string) (hx : cx E vs ops x = some px) {cf : CallF} (hs : hopv cf (.range px) st = some (u, st1)) (hk : Goes N w G a st1 u vs ops j o next) : o.wp P a w next Q := by
  simp only [hopv] at hs
  split at hs
  · rename_i s hp
    simp only [Option.some.injEq, Prod.mk.injEq] at hs
    obtain ⟨rfl, rfl⟩ := hs
    have h := (rd_sound hE hx hf hp).1
    generalize hv : a.eval x = v at h
    cases h with
    | str s =>
      refine obj_new (mob := .stringIter s 0) (v := .pointer (some ⟨w.heap.size, 0, none⟩)) nm ho hf ?_ ?_ (fun G' hG hext => ?_) hk
      · have := run_range_string (P := P) w t s hu
        simp only [execOp, hop, hv, Sem.run_bind, Sem.run_map, this, Result.andThen_ok, Sem.run_pure]
        rfl
      · rintro G' rfl
        exact .ptr _ _ w.heap.size (by simp [GS.more])
      · subst hG
        refine ⟨?_, s, alloc_heap_new, rfl⟩
        intro o h
        have := hf.fixlt _ _ h
        omega
  · simp at hs
theorem obj_turn (nm : Names vs (lmap vs ops)) (ho : ops[j]? = some o) (hf : FI N w G st a vs (lmap vs ops)) {n b : Nat} {ob ob' : PObj} {mob : Obj} {v : Value} (hob : st.heap[n]? = some ob) (hb : G.heap n = some b) (how : G.ow b = some (.hobj n))
    (hnf : ∀ o, ¬ G.fix b o) (hrun : (execOp a.eval o).run P w = .ok (.value v) { w with heap := w.heap.setIfInBounds b mob }) (hnc : w.shape? b = none ∧ loopOf w b = none)
    (hR : ObjR N { w with heap := w.heap.setIfInBounds b mob } G n b ob')
    (hv : SR N { w with heap := w.heap.setIfInBounds b mob } G (keyD (cDst vs o.dst) j) v u)
    (hk : Goes N w G a (hset st n ob') u vs ops j o next) : o.wp P a w next Q := by
  unfold Oper.wp
  rw [hrun]
  let w' : World := { w with heap := w.heap.setIfInBounds b mob }
  have hblt : b < w.heap.size := hf.owlt _ _ how
  have hother : ∀ x, x ≠ b → w'.heap[x]? = w.heap[x]? := fun x hx => by
    simp only [w', Array.getElem?_setIfInBounds]; rw [if_neg (by omega)]
  have hext : Ext w G w' G := by
    refine ⟨rfl, rfl, rfl, by simp [w'], fun x _ hxo => hother x (by rintro rfl; rw [how] at hxo; simp at hxo), ?_, fun _ _ h => .inl h, fun _ h => .inr h, fun _ _ h => h, .one b (fun k _ hk => hother k hk) (fun s hx => by rw [hnc.1] at hx; simp at hx) (fun s hx => by rw [hnc.2] at hx; simp at hx), rfl⟩
    intro x o' hfx
    have hxb : x ≠ b := by rintro rfl; exact hnf _ hfx
    refine ⟨hfx, ?_⟩
    simp only [World.cell?, hother x hxb]
  have hkeep : Keep (fun k => k = .hobj n) w G w' G := by
    refine ⟨?_, fun _ _ h => h⟩
    intro x k hx hnk
    have hxb : x ≠ b := by rintro rfl; rw [how] at hx; simp at hx; exact hnk hx.symm
    exact ⟨hx, hother x hxb, fun _ h => h⟩
  have hf1 : FI N w' G (hset st n ob') a vs (lmap vs ops) := by
    refine ⟨hf.len, fun i t' u' h1 h2 => (hf.var i t' u' h1 h2).keep hext hkeep (by simp) (by simp), fun i t' u' h1 h2 => (hf.loc i t' u' h1 h2).keep hext hkeep (by simp) (by simp), hf.tv, hf.tl, hf.defers, hf.gen, ?_, ?_, ?_, ?_⟩
    · intro b' k hb'; simpa [w'] using hf.owlt _ _ hb'
    · intro b' k hb'; simpa [w'] using hf.fixlt _ _ hb'
    · exact hf.heap.keepBut hext hkeep (fun m k hne => ⟨by simp; omega, by simp⟩) (fun _ => .inr ⟨b, hb, how, hR⟩)
    · intro m b' h; have := hf.hdom _ _ h; simpa [hset] using this
  exact hk _ w' G (hf1.put nm (cDst_ok ho) hv) hext (put_size _ _ _)
theorem next_sound (hE : EnvOk E N) (nm : Names vs (lmap vs ops)) (ho : ops[j]? = some o) (hf : FI N w G st a vs (lmap vs ops)) {x : Operand} {px : PX} (hop : o.op = .next x true)
    (hx : cx E vs ops x = some px) {cf : CallF} (hs : hopv cf (.next px) st = some (u, st1)) (hk : Goes N w G a st1 u vs ops j o next) : o.wp P a w next Q := by
  simp only [hopv] at hs
  split at hs
  · rename_i n hp
    have h := (rd_sound hE hx hf hp).1
    split at hs
    · rename_i s pos hob
      generalize hv : a.eval x = v at h
      cases h with
      | ptr _ _ b hb =>
        rcases hf.heap.1 n _ hob with e | ⟨b', h1, h2, h3, s', h4, h5⟩
        · simp at e
        have : b' = b := by rw [hb] at h1; simpa using h1.symm
        subst this
        subst h5
        have hsz : s'.data.toList.length = s'.size := Array.length_toList
        have hs' : (⟨s'.data.toList.toArray⟩ : ByteArray) = s' := by cases s'; simp
        rw [hsz, hs'] at hs
        have hblt : b' < w.heap.size := hf.owlt _ _ h2
        split at hs
        · rename_i hlt
          simp only [Option.some.injEq, Prod.mk.injEq] at hs
          obtain ⟨rfl, rfl⟩ := hs
          refine obj_turn (ob' := .siter s'.data.toList (pos + (Utf8.decode s' pos).2)) (mob := .stringIter s' (pos + (Utf8.decode s' pos).2)) (v := .tuple #[.bool true, goInt pos, .int .i32 (Utf8.decode s' pos).1]) nm ho hf hob hb h2 h3 ?_ (by simp [World.shape?, loopOf, h4]) ⟨h3, s', ?_, rfl⟩ (SR.of_pure ?_ rfl) hk
          · simp [execOp, hop, hv, Instr.next, getObj, setObj, Sem.run, Result.andThen, h4, hlt, goInt]
          · simp [hblt]
          · refine .tuple _ _ rfl ?_
            intro i c p hc hp
            match i with
            | 0 => simp at hc hp; subst hc hp; exact .bool _
            | 1 => simp at hc hp; subst hc hp; exact .int _ _
            | 2 => simp at hc hp; subst hc hp; exact .int _ _
            | n + 3 => simp at hc
        · rename_i hlt
          simp only [Option.some.injEq, Prod.mk.injEq] at hs
          obtain ⟨rfl, rfl⟩ := hs
          refine wp_value (v := .tuple #[.bool false]) nm ho hf ?_ (SR.of_pure ?_ rfl) hk
          · simp [execOp, hop, hv, Instr.next, getObj, Sem.run, Result.andThen, h4, hlt]
          · refine .tuple _ _ rfl ?_
            intro i c p hc hp
            match i with
            | 0 => simp at hc hp; subst hc hp; exact .bool _
            | n + 1 => simp at hc
    · simp at hs
  · simp at hs
theorem s2b_sound (hE : EnvOk E N) (nm : Names vs (lmap vs ops)) (ho : ops[j]? = some o) (hf : FI N w G st a vs (lmap vs ops)) {src dst e : TypeId} {x : Operand} {px : PX} (hop : o.op = .convert src dst x) (hdst : cDst vs o.dst ≠ .n)
    (hs1 : P.underlying src = some .string) (hd : P.underlying dst = some (.slice e)) (he : P.underlying e = some (.int .u8)) (hx : cx E vs ops x = some px) {cf : CallF} (hs : opv cf (.s2b px) st = some (u, st1)) (hk : Goes N w G a st1 u vs ops j o next) : o.wp P a w next Q := by
  simp only [opv] at hs
  split at hs
  · rename_i s hp
    split at hs
    · rename_i hlen
      simp only [Option.some.injEq, Prod.mk.injEq] at hs
      obtain ⟨rfl, rfl⟩ := hs
      have h := (rd_sound hE hx hf hp).1
      generalize hv : a.eval x = v at h
      cases h with
      | str s =>
        have hsz : s.data.toList.length = s.size := Array.length_toList
        have hrun := Lib.run_convert_string_bytes (P := P) w src dst e s hs1 hd he
        unfold Oper.wp
        have hrun' : (execOp a.eval o).run P w = .ok (.value (.slice (some ⟨w.heap.size, 0, none⟩) s.size (grownCap w s.size 0 e))) (Lib.bytesWorld w e s) := by
          simp [execOp, hop, hv, hrun]
        rw [hrun']
        have hnc : s.size ≤ grownCap w s.size 0 e := grownCap_ge w s.size 0 e
        let G' : GS := { G with fix := fun b o => G.fix b o ∨ (b = w.heap.size ∧ o < s.size), ow := fun b => if b = w.heap.size then some (keyD (cDst vs o.dst) j) else G.ow b }
        have hsize := Lib.bytesWorld_size w e s
        have hext : Ext w G (Lib.bytesWorld w e s) G' := by
          refine ⟨?_, ?_, ?_, by omega, fun b hb _ => Lib.bytesWorld_at_old w e s b hb, fun b o h => ⟨.inl h, Lib.bytesWorld_old w e s ⟨b, o, none⟩ (hf.fixlt _ _ h)⟩, ?_, ?_, fun _ _ h => h, .same fun k hk => Lib.bytesWorld_at_old w e s k hk, rfl⟩
          · simp [Lib.bytesWorld, World.freeze, World.alloc, World.drew, -World.alloc_eq, -World.drew_eq]
          · simp [Lib.bytesWorld, World.freeze, World.alloc, World.drew, -World.alloc_eq, -World.drew_eq]
          · simp [Lib.bytesWorld, World.freeze, World.alloc, World.drew, -World.alloc_eq, -World.drew_eq]
          · rintro b o (h | h)
            · exact .inl h
            · exact .inr (.inl (by omega))
          · intro b hb
            simp only [G'] at hb
            split at hb
            · exact .inl (by omega)
            · exact .inr hb
        have hkeep : Keep (fun k => k = keyD (cDst vs o.dst) j) w G (Lib.bytesWorld w e s) G' := by
          refine ⟨?_, fun _ _ h => h⟩
          intro b k hb _
          have hlt := hf.owlt _ _ hb
          refine ⟨?_, Lib.bytesWorld_at_old w e s b hlt, ?_⟩
          · simp only [G']; rw [if_neg (by omega)]; exact hb
          · rintro o (h | h)
            · exact h
            · omega
        have hR := ofBytes_R (N := N) (w := Lib.bytesWorld w e s) G'.fix G'.heap s
        have hl : (ofBytes s.data.toList).length = s.size := by rw [ofBytes_len]; exact hsz
        have how' : ∀ b k, G'.ow b = some k → b < (Lib.bytesWorld w e s).heap.size := by
          intro b k hb
          simp only [G'] at hb
          split at hb
          · omega
          · have := hf.owlt _ _ hb; omega
        have hfx' : ∀ b o, G'.fix b o → b < (Lib.bytesWorld w e s).heap.size := by
          rintro b o (h | h)
          · have := hf.fixlt _ _ h; omega
          · omega
        have hvr : ∀ own, VR N (Lib.bytesWorld w e s) G'.fix G'.heap (.slice (some ⟨w.heap.size, 0, none⟩) s.size (grownCap w s.size 0 e)) (.list own (ofBytes s.data.toList)) := by
          intro own
          have hm := list_mk (own := own) (b := w.heap.size) (off := 0) (cap := grownCap w s.size 0 e) hR (by rw [hl]; exact hnc) ?_
          · rw [hl] at hm; exact hm
          · intro k u' hu
            have hk : k < s.size := by have := (List.getElem?_eq_some_iff.1 hu).1; rw [byteCells_length] at this; exact this
            rw [Nat.zero_add]
            refine ⟨?_, .inr ⟨rfl, hk⟩⟩
            rw [Lib.bytesWorld_cell w e s k hk]
            simp only [byteCells, List.getElem?_map, Option.map_eq_some_iff] at hu
            obtain ⟨b, hb, rfl⟩ := hu
            simp [List.getD, hb]
        refine hk _ _ G' (hf.extDst nm (cDst_ok ho) hdst hext hkeep (fun g b h => hf.gen g b h) how' hfx' rfl ?_) hext (put_size _ _ _)
        cases he0 : s.data.toList.isEmpty with
        | true => exact SR.of_pure (hvr false) rfl
        | false =>
          refine ⟨hvr true, ?_⟩
          have h0 : 0 < s.size := by
            rw [← hsz]
            cases hx : s.data.toList with
            | nil => rw [hx] at he0; simp at he0
            | cons => simp
          refine .inr ⟨by simp [G'], 1, Lib.bytesCells w e s, e, hR.sz, ⟨_, Lib.bytesWorld_at_new w e s, fun o ho h => by simp at h; omega⟩, ?_, h0, ?_⟩
          · have : s.data.size = s.size := rfl
            simp only [Lib.bytesCells, Array.size_append, Array.size_map, Array.size_replicate]
            omega
          · rintro o' ho' (h | h)
            · have := hf.fixlt _ _ h; simp at this
            · simp at ho'; omega
    · simp at hs
  · simp at hs
theorem flat_cells {size : Nat} : ∀ {xs : List PV}, (∀ e ∈ xs, e.cells.length = size) → (xs.flatMap PV.cells).length = xs.length * size ∧ ∀ (i : Nat) (e : PV), xs[i]? = some e → ∀ k, k < size → (xs.flatMap PV.cells)[i * size + k]? = e.cells[k]?
  | [], _ => by simp
  | x :: xs, h => by
    obtain ⟨h1, h2⟩ := flat_cells (xs := xs) (fun e he => h e (List.mem_cons_of_mem _ he))
    have hx := h x (List.mem_cons_self ..)
    refine ⟨by simp only [List.flatMap_cons, List.length_append, h1, hx, List.length_cons, Nat.add_mul, Nat.one_mul]; omega, ?_⟩
    intro i e he k hk
    rw [List.flatMap_cons]
    cases i with
    | zero =>
      simp at he; subst he
      rw [Nat.zero_mul, Nat.zero_add, List.getElem?_append_left (by omega)]
    | succ i =>
      rw [Nat.add_mul, Nat.one_mul, List.getElem?_append_right (by omega), hx]
      have := h2 i e (by simpa using he) k hk
      rw [show i * size + size + k - size = i * size + k by omega]
      exact this
theorem ListR.flats {fix : Nat → Nat → Prop} {hp : Nat → Option Nat} {size : Nat} {news : List Value} {xs : List PV} (h : ListR N w fix hp size news xs) (hs : size ≠ 0) :
    news.length = ((xs.flatMap PV.cells).map dem).length ∧ ∀ (k : Nat) (c : Value) (x : PV), news[k]? = some c → ((xs.flatMap PV.cells).map dem)[k]? = some x → VR N w fix hp c x ∧ x.flat = true ∧ ∀ es, x ≠ .list true es := by
  obtain ⟨h1, h2⟩ := flat_cells h.sz
  refine ⟨by rw [List.length_map, h1, h.len], ?_⟩
  intro k c x hc hx
  simp only [List.getElem?_map, Option.map_eq_some_iff] at hx
  obtain ⟨y, hy, rfl⟩ := hx
  have hk : k < xs.length * size := by rw [← h1]; exact (List.getElem?_eq_some_iff.1 hy).1
  have hi : k / size < xs.length := by rw [Nat.div_lt_iff_lt_mul (by omega)]; exact hk
  have hm : k % size < size := Nat.mod_lt _ (by omega)
  have he : k / size * size + k % size = k := by rw [Nat.mul_comm]; exact Nat.div_add_mod k size
  have h3 := h2 (k / size) xs[k / size] (List.getElem?_eq_getElem hi) (k % size) hm
  rw [he, hy] at h3
  refine ⟨(h.vr (k / size) _ (List.getElem?_eq_getElem hi) (k % size) c y (by rw [he]; exact hc) h3.symm).dem, ?_, ?_⟩
  · rw [flat_dem]
    exact h.flat _ (List.getElem_mem hi) y (List.mem_of_getElem? h3.symm)
  · intro es e; cases y <;> simp [dem] at e
theorem dem_notOwn (y : PV) (es : List PV) : dem y ≠ .list true es := by intro e; cases y <;> simp [dem] at e
theorem happ_new (nm : Names vs (lmap vs ops)) (ho : ops[j]? = some o) (hf : FI N w G st a vs (lmap vs ops)) {heap1 : List PObj} (hh1 : HR N w G heap1) (hlen1 : heap1.length = st.heap.length) {v : Value} {CS : Array Value} {e : TypeId} {ps : List PV} {sz len cap : Nat} {agg : Bool}
    (hrun : (execOp a.eval o).run P w = .ok (.value (.slice (some ⟨w.heap.size, 0, none⟩) len cap)) (w.drew.alloc (.cells CS e))) (hcap : len ≤ cap) (hCS : CS.size = cap * sz) (hps : ps.length ≤ CS.size)
    (hR : ∀ (k : Nat) (c : Value) (x : PV), CS[k]? = some c → ps[k]? = some x → VR N w G.fix G.heap c x ∧ x.flat = true ∧ ∀ es, x ≠ .list true es)
    (hk : Goes N w G a { st with heap := heap1 ++ [.cells ps] } (.rowp st.heap.length sz agg len) vs ops j o next) : o.wp P a w next Q := by
  unfold Oper.wp
  rw [hrun]
  let w' : World := w.drew.alloc (.cells CS e)
  let G' : GS := G.more w.heap.size st.heap.length
  have hext : Ext w G w' G' := by
    refine ⟨rfl, rfl, rfl, by simp [w'], fun b hb _ => alloc_heap_old (w := w.drew) hb, fun b o h => ⟨h, alloc_cell_old (w := w.drew) (hf.fixlt _ _ h)⟩, fun _ _ h => .inl h, ?_, ?_, .same fun k hk => alloc_heap_old (w := w.drew) hk, rfl⟩
    · intro b hb
      by_cases hlt : b < w.heap.size
      · refine .inr ?_
        simp only [G', GS.more] at hb
        rw [if_neg (by omega)] at hb
        exact hb
      · exact .inl (by omega)
    · intro n b h
      have := hf.hdom _ _ h
      simp only [G', GS.more]
      rw [if_neg (by omega)]; exact h
  have hkeep : Keep (fun _ => False) w G w' G' := by
    refine ⟨?_, fun _ _ h => h⟩
    intro b k hb _
    have hlt := hf.owlt _ _ hb
    refine ⟨?_, alloc_heap_old (w := w.drew) hlt, fun _ h => h⟩
    simp only [G', GS.more]
    rw [if_neg (by omega)]; exact hb
  have hobj : ObjR N w' G' st.heap.length w.heap.size (.cells ps) := by
    refine ⟨fun o h => by have := hf.fixlt _ _ h; omega, CS, e, alloc_heap_new (w := w.drew), hps, ?_⟩
    intro k c x hc hx
    obtain ⟨h1, h2, h3⟩ := hR k c x hc hx
    refine ⟨h1.ext hext, h2, ?_⟩
    split
    · exact absurd rfl (h3 _)
    · trivial
  have hf1 : FI N w' G' { st with heap := heap1 ++ [.cells ps] } a vs (lmap vs ops) := by
    refine ⟨hf.len, fun i t u h1 h2 => (hf.var i t u h1 h2).keep hext hkeep (fun h => h) (fun _ _ _ h => h), fun j t u h1 h2 => (hf.loc j t u h1 h2).keep hext hkeep (fun h => h) (fun _ _ _ h => h), hf.tv, hf.tl, (hf.defers.trans hext.df.symm), hf.gen, ?_, ?_, ?_, ?_⟩
    · intro b k hb
      simp only [G', GS.more] at hb
      split at hb
      · simp [w']; omega
      · have := hf.owlt _ _ hb; simp [w']; omega
    · intro b o h
      have := hf.fixlt _ _ h; simp [w']; omega
    · exact hh1.push hext hkeep (fun _ _ _ => ⟨fun h => h, fun h => h⟩) (.inr ⟨w.heap.size, by simp [G', GS.more, hlen1], by simp [G', GS.more, hlen1], by rw [hlen1]; exact hobj⟩)
    · intro n b h
      simp only [G', GS.more] at h
      split at h
      · simp; omega
      · have := hf.hdom _ _ h; simp; omega
  refine hk _ w' G' (hf1.put nm (cDst_ok ho) (SR.of_pure (.rowp _ _ _ _ w.heap.size cap (by simp [G', GS.more]) hcap ⟨e, cap * sz, ?_, Nat.le_refl _⟩) rfl)) hext (put_size _ _ _)
  have h1 : w'.heap[w.heap.size]? = some (.cells CS e) := alloc_heap_new (w := w.drew)
  simp only [World.shape?, h1, hCS]
theorem happ_sound (hE : EnvOk E N) (nm : Names vs (lmap vs ops)) (ho : ops[j]? = some o) (hf : FI N w G st a vs (lmap vs ops)) {ts tx e e' : TypeId} {size : Nat} {z : List PV} {s x : Operand} {ps px : PX}
    (hop : o.op = .call { callee := .builtin .append, args := #[s, x], argTypes := #[ts, tx] }) (hts : P.underlying ts = some (.slice e)) (htx : P.underlying tx = some (.slice e')) (hn : sizeT P e = some size) (hz : zeroT P e = some z)
    (hs' : cx E vs ops s = some ps) (hx : cx E vs ops x = some px) {cf : CallF} (hs : hopv cf (.happ size (isAggT P e) (P.bytesOf e) ps px) st = some (u, st1)) (hk : Goes N w G a st1 u vs ops j o next) : o.wp P a w next Q := by
  obtain ⟨i, d, hi, hisz, hs0, hd⟩ := info_underlying hn
  obtain ⟨i2, zv, hi2, hzv, _, hzl, hzR, _⟩ := zeroT_sound (N := N) (w := w) (fix := G.fix) (hp := G.heap) hz
  have : i2 = i := by rw [hi] at hi2; simpa using hi2.symm
  subst this
  subst hisz
  have hzs : zv.cells.size = i2.size := by have := hzR.1; simp at this; omega
  have hby : P.bytesOf e = i2.bytes := by simp [Program.bytesOf, hi]
  have hop' : ∀ v w', (Builtin.append_ #[ts, tx] o.type #[a.eval s, a.eval x]).run P w = .ok v w' → (execOp a.eval o).run P w = .ok (.value v) w' := by
    intro v w' hr
    simp [execOp, hop, resolve, invoke, builtin, hr]
  have src : ∀ {p0 : PV} {xs : List PV}, rd st px = some p0 → asRow p0 = some xs → headOk i2.size xs = true → ∃ news, ListR N w G.fix G.heap i2.size news xs ∧ Src P i2.size tx (a.eval x) xs.length news w := by
    intro p0 xs hrd hrow hh
    have hvx := (rd_sound hE hx hf hrd).1.row hrow
    obtain ⟨news, hRx, hcx⟩ := list_cells hvx hh
    refine ⟨news, hRx, ?_⟩
    rcases hcx with ⟨h1, h2, h3⟩ | ⟨ad, cap, h1, h2, h3⟩ | ⟨b, off, cap, h1, h2, h3⟩
    · rw [h1, h2, h3]; exact Src.ofNil w htx 0
    · rw [h1, h2, h3]; exact Src.ofSlice w htx ad 0 cap [] (by simp) (by simp) (by simp)
    · rw [h1]
      exact Src.ofSlice w htx ⟨b, off, none⟩ xs.length cap news hRx.len (fun j u hu => by rw [addr_add]; exact (h3 j u hu).1) (hRx.one hs0)
  have grow : ∀ {heap1 : List PObj} {xs oldps : List PV} {news olds : List Value} {base : Option Addr} {len cap : Nat}, HR N w G heap1 → heap1.length = st.heap.length → ListR N w G.fix G.heap i2.size news xs → Src P i2.size tx (a.eval x) xs.length news w → a.eval s = .slice base len cap →
      (Builtin.firstCells i2.size len (.slice base len cap)).run P w.drew = .ok olds.toArray w.drew → olds.length = len * i2.size → oldps.length = olds.length → (∀ (k : Nat) (c : Value) (y : PV), olds[k]? = some c → oldps[k]? = some y → VR N w G.fix G.heap c y ∧ y.flat = true ∧ ∀ es, y ≠ .list true es) →
      cap < len + xs.length → len + xs.length ≤ 2147483648 → i2.bytes ≤ 16384 →
      Goes N w G a { st with heap := heap1 ++ [.cells (oldps ++ (xs.flatMap PV.cells).map dem)] } (.rowp st.heap.length i2.size (isAggT P e) (len + xs.length)) vs ops j o next → o.wp P a w next Q := by
    intro heap1 xs oldps news olds base len cap hh1 hl1 hRx hsrc hv hold hol hop1 hoR hcap hb1 hb2 hk
    have hbytes : (len + xs.length) * i2.bytes ≤ 140737488355328 := Nat.le_trans (Nat.mul_le_mul hb1 hb2) (by decide)
    have hrun := run_append_grow_src (P := P) w ts tx o.type e i2 zv hts hi hzv base len cap olds hold (a.eval x) xs.length news hsrc hcap (by omega) (growslice_fits hcap hbytes)
    rw [← hv] at hrun
    obtain ⟨hfl, hfR⟩ := hRx.flats hs0
    have hnc := grownCap_ge w (len + xs.length) cap e
    refine happ_new (v := undef) (sz := i2.size) (cap := grownCap w (len + xs.length) cap e) nm ho hf hh1 hl1 (hop' _ _ hrun) hnc ?_ ?_ ?_ hk
    · simp only [Array.size_append, List.size_toArray, size_zeroCells, hzs, hol, hRx.len, List.length_append]
      rw [Nat.sub_mul, Nat.add_mul]
      have : (len + xs.length) * i2.size ≤ grownCap w (len + xs.length) cap e * i2.size := Nat.mul_le_mul_right _ hnc
      rw [Nat.add_mul] at this
      omega
    · simp only [Array.size_append, List.size_toArray, List.length_append, hop1]
      omega
    · intro k c y hc hy
      by_cases hk1 : k < olds.length
      · rw [List.getElem?_append_left (by omega)] at hy
        rw [Array.getElem?_append_left (by simp; omega)] at hc
        simp only [List.getElem?_toArray] at hc
        rw [List.getElem?_append_left hk1] at hc
        exact hoR k c y hc hy
      · rw [List.getElem?_append_right (by omega)] at hy
        have hlt : k - olds.length < news.length := by
          rw [hfl, ← hop1]; exact (List.getElem?_eq_some_iff.1 hy).1
        rw [Array.getElem?_append_left (by simp; omega)] at hc
        simp only [List.getElem?_toArray] at hc
        rw [List.getElem?_append_right (by omega)] at hc
        rw [hop1] at hy
        exact hfR _ c y hc hy
  simp only [hopv] at hs
  rw [hby] at hs
  split at hs
  · rename_i xs n sz ag len hrd0 hraw
    simp only [Option.bind_eq_some_iff] at hrd0
    obtain ⟨p0, hrd, hrow⟩ := hrd0
    split at hs
    · rename_i cs hob
      split at hs
      · rename_i hc
        obtain ⟨rfl, rfl, hcl, hh2, hb1, hb2⟩ := hc
        simp only [Option.some.injEq, Prod.mk.injEq] at hs
        obtain ⟨rfl, rfl⟩ := hs
        obtain ⟨news, hRx, hsrc⟩ := src hrd hrow hh2
        have hvs := ((raw_sound hE hs' hf hraw).read (r := .rowp n i2.size (isAggT P e) len) rfl).1
        generalize hv : a.eval s = v at hvs
        cases hvs with
        | rowp _ _ _ _ b cap hb hcap hsh =>
          obtain ⟨T', m, hsh1, hsh2⟩ := hsh
          obtain ⟨ho1, ho2, cv, T, hh, hl, hcr⟩ := obj_open hf (show hget st n = some cs by simp [hget, hob]) hb
          have hm : m = cv.size := by simp only [World.shape?, hh, Option.some.injEq, Prod.mk.injEq] at hsh1; exact hsh1.2.symm
          subst hm
          have holdR : ∀ (k : Nat) (c : Value) (y : PV), (cv.toList.take (len * i2.size))[k]? = some c → (cs.map dem)[k]? = some y → VR N w G.fix G.heap c y ∧ y.flat = true ∧ ∀ es, y ≠ .list true es := by
            intro k c y hc hy
            simp only [List.getElem?_map, Option.map_eq_some_iff] at hy
            obtain ⟨y0, hy0, rfl⟩ := hy
            rw [List.getElem?_take] at hc
            split at hc
            · have := hcr k c y0 (by simpa using hc) hy0
              exact ⟨this.1.dem, by rw [flat_dem]; exact this.2.1, dem_notOwn y0⟩
            · simp at hc
          have hol : (cv.toList.take (len * i2.size)).length = len * i2.size := by simp; omega
          have hcells : ∀ (k : Nat) (u : Value), (cv.toList.take (len * i2.size))[k]? = some u → w.cell? ⟨b, 0 + k, none⟩ = some u := by
            intro k u hu
            rw [List.getElem?_take] at hu
            split at hu
            · simp only [World.cell?, hh, Nat.zero_add]; simpa using hu
            · simp at hu
          by_cases hgrow : cap < len + xs.length
          · refine grow (heap1 := st.heap.set n .gone) ?_ (by simp) hRx hsrc hv (olds := cv.toList.take (len * i2.size)) ?_ hol (by rw [List.length_map, hcl, hol]) holdR hgrow hb1 hb2 hk
            · exact hf.heap.keepBut (K := fun _ => False) (Ext.refl _ _) ⟨fun _ _ h _ => ⟨h, rfl, fun _ h => h⟩, fun _ _ h => h⟩ (fun _ _ _ => ⟨fun h => h, fun h => h⟩) (fun _ => .inl rfl)
            · exact run_firstCells_some w.drew _ _ _ _ _ _ hol (fun k u hu => by rw [addr_add]; exact hcells k u hu)
          ·
            have hle : len + xs.length ≤ cap := by omega
            obtain ⟨hfl, hfR⟩ := hRx.flats hs0
            have hfit : len * i2.size + news.length ≤ cv.size := by
              rw [hRx.len]
              have : (len + xs.length) * i2.size ≤ cap * i2.size := Nat.mul_le_mul_right _ hle
              rw [Nat.add_mul] at this; omega
            let NR : Array Value := (cv.toList.take (len * i2.size) ++ news ++ cv.toList.drop (len * i2.size + news.length)).toArray
            have hNRs : NR.size = cv.size := by simp only [NR, List.size_toArray, List.length_append, List.length_take, List.length_drop, Array.length_toList]; omega
            have hrun : (Builtin.append_ #[ts, tx] o.type #[a.eval s, a.eval x]).run P w = .ok (.slice (some ⟨b, 0, none⟩) (len + xs.length) cap) (w.setRow b NR) := by
              have hst := run_storeCells_live P b (len * i2.size) T (0, 0) news 0 cv w hh (fun o _ h => by simp at h) (by simpa using hfit) (hRx.one hs0)
              simp only [Nat.add_zero] at hst
              rw [hv]
              rcases hsrc.kind with ⟨e'', hk'⟩ | hk' <;>
                simp [Builtin.append_, run_underlying hts, run_underlying hk', Go.sizeOf, typeInfo, hi, hsrc.len, hle, hsrc.cells, addr_add, hst, NR]
            have hblt : b < w.heap.size := hf.owlt _ _ ho1
            have hother : ∀ x, x ≠ b → (w.setRow b NR).heap[x]? = w.heap[x]? := fun x hx => setRow_other w b x _ hx
            let G' : GS := { G with heap := fun m => if m = st.heap.length then some b else G.heap m, ow := fun x => if x = b then some (.hobj st.heap.length) else G.ow x }
            have hext : Ext w G (w.setRow b NR) G' := by
              refine ⟨rfl, rfl, rfl, by simp [World.setRow], ?_, ?_, fun _ _ h => .inl h, ?_, ?_, shape_setRow hh _ hNRs, rfl⟩
              · intro y _ hyo
                exact hother y (by rintro rfl; rw [ho1] at hyo; simp at hyo)
              · intro y o' hfx
                have hyb : y ≠ b := by rintro rfl; exact ho2 _ hfx
                exact ⟨hfx, by simp only [World.cell?, hother y hyb]⟩
              · intro y hy
                simp only [G'] at hy
                split at hy
                · rename_i hyb; exact .inr (by rw [hyb, ho1]; simp)
                · exact .inr hy
              · intro m y hy
                have := hf.hdom _ _ hy
                simp only [G']
                rw [if_neg (by omega)]; exact hy
            have hkeep : Keep (fun k => k = .hobj n) w G (w.setRow b NR) G' := by
              refine ⟨?_, fun _ _ h => h⟩
              intro y k hy hnk
              have hyb : y ≠ b := by rintro rfl; rw [ho1] at hy; simp at hy; exact hnk hy.symm
              refine ⟨?_, hother y hyb, fun _ h => h⟩
              simp only [G']; rw [if_neg hyb]; exact hy
            have hnlt : n < st.heap.length := (List.getElem?_eq_some_iff.1 hob).1
            have hheap : HR N (w.setRow b NR) G' (st.heap.set n .gone ++ [.cells (cs.map dem ++ (xs.flatMap PV.cells).map dem)]) := by
              refine ⟨?_, hf.heap.2.ext hext⟩
              intro m ob hm
              by_cases hml : m < (st.heap.set n .gone).length
              · rw [List.getElem?_append_left hml, List.getElem?_set] at hm
                split at hm
                · exact .inl (by simpa [hnlt] using hm.symm)
                · rename_i hne
                  rcases hf.heap.1 m ob hm with rfl | ⟨y, h1, h2, h3⟩
                  · exact .inl rfl
                  · exact .inr ⟨y, hext.heap _ _ h1, (hkeep.1 _ _ h2 (by simp; omega)).1, h3.keep h2 hext hkeep (by simp; omega) (by simp)⟩
              · rw [List.getElem?_append_right (by omega)] at hm
                simp only [List.length_set] at hm hml
                have hm0 : m - st.heap.length = 0 := by
                  cases hx : m - st.heap.length with
                  | zero => rfl
                  | succ k => rw [hx] at hm; simp at hm
                rw [hm0] at hm
                simp at hm
                subst hm
                have hm' : m = st.heap.length := by omega
                subst hm'
                refine .inr ⟨b, by simp [G'], by simp [G'], fun o' h => ho2 o' h, NR, T, setRow_heap w b cv NR T (0, 0) hh, ?_, ?_⟩
                · simp only [List.length_append]
                  rw [← hfl, List.length_map, hcl, hNRs]; exact hfit
                · intro k c y hc hy
                  have hfin : VR N w G.fix G.heap c y ∧ y.flat = true ∧ ∀ es, y ≠ .list true es := by
                    simp only [NR, List.getElem?_toArray, List.append_assoc] at hc
                    by_cases hk1 : k < len * i2.size
                    · rw [List.getElem?_append_left (by rw [List.length_map, hcl]; exact hk1)] at hy
                      rw [List.getElem?_append_left (by rw [hol]; exact hk1)] at hc
                      exact holdR k c y hc hy
                    · rw [List.getElem?_append_right (by rw [List.length_map, hcl]; omega), List.length_map, hcl] at hy
                      have hlt : k - len * i2.size < news.length := by rw [hfl]; exact (List.getElem?_eq_some_iff.1 hy).1
                      rw [List.getElem?_append_right (by rw [hol]; omega), hol, List.getElem?_append_left hlt] at hc
                      exact hfR _ c y hc hy
                  refine ⟨hfin.1.ext hext, hfin.2.1, ?_⟩
                  split
                  · exact absurd rfl (hfin.2.2 _)
                  · trivial
            unfold Oper.wp
            rw [hop' _ _ hrun]
            have hf1 : FI N (w.setRow b NR) G' { st with heap := st.heap.set n .gone ++ [.cells (cs.map dem ++ (xs.flatMap PV.cells).map dem)] } a vs (lmap vs ops) := by
              refine ⟨hf.len, fun i t u h1 h2 => (hf.var i t u h1 h2).keep hext hkeep (by simp) (by simp), fun j t u h1 h2 => (hf.loc j t u h1 h2).keep hext hkeep (by simp) (by simp), hf.tv, hf.tl, hf.defers, hf.gen, ?_, ?_, hheap, ?_⟩
              · intro y k hy
                simp only [G'] at hy
                split at hy
                · rename_i hyb; simp [World.setRow, hyb, hblt]
                · have := hf.owlt _ _ hy; simpa [World.setRow] using this
              · intro y o' h; have := hf.fixlt _ _ h; simpa [World.setRow] using this
              · intro m y hy
                simp only [G'] at hy
                split at hy
                · simp; omega
                · have := hf.hdom _ _ hy; simp; omega
            refine hk _ _ G' (hf1.put nm (cDst_ok ho) (SR.of_pure (.rowp _ _ _ _ b cap (by simp [G']) hle ⟨T, cv.size, ?_, hsh2⟩) rfl)) hext (put_size _ _ _)
            simp only [World.shape?, setRow_heap w b cv NR T (0, 0) hh, hNRs]
      · simp at hs
    · simp at hs
  · rename_i xs hrd0 hraw
    simp only [Option.bind_eq_some_iff] at hrd0
    obtain ⟨p0, hrd, hrow⟩ := hrd0
    split at hs
    · rename_i hc
      obtain ⟨hx0, hh2, hb1, hb2⟩ := hc
      simp only [Option.some.injEq, Prod.mk.injEq] at hs
      obtain ⟨rfl, rfl⟩ := hs
      obtain ⟨news, hRx, hsrc⟩ := src hrd hrow hh2
      have hpos : 0 < xs.length := List.length_pos_iff.2 hx0
      have hsr := raw_sound hE hs' hf hraw
      obtain ⟨hvr, hroom⟩ : VR N w G.fix G.heap (a.eval s) (.list true []) ∧ Room w G (keyX ps) (a.eval s) [] := hsr
      have hform : ∃ base, a.eval s = .slice base 0 0 := by
        generalize a.eval s = v at hvr hroom
        cases hvr with
        | nils => exact ⟨none, rfl⟩
        | void _ ad cap =>
          rcases hroom with h | ⟨_, _, _, _, _, _, _, h, _⟩
          · subst h; exact ⟨_, rfl⟩
          · simp at h
        | list _ b off len cap sz _ cv hlen hcap _ _ _ _ =>
          simp at hlen; subst hlen
          rcases hroom with h | ⟨_, _, _, _, _, _, _, h, _⟩
          · subst h; exact ⟨_, rfl⟩
          · simp at h
      obtain ⟨base, hv⟩ := hform
      have hold : (Builtin.firstCells i2.size 0 (.slice base 0 0)).run P w.drew = .ok ([] : List Value).toArray w.drew := by
        cases base with
        | none => exact run_firstCells_none w.drew _ _ _ _
        | some ad => exact run_firstCells_some w.drew _ _ _ _ _ [] (by simp) (by simp)
      refine grow (heap1 := st.heap) (oldps := []) hf.heap rfl hRx hsrc hv hold (by simp) rfl (by simp) (by omega) (by omega) hb2 ?_
      simpa using hk
    · simp at hs
  · simp at hs
end
end PI
set_option linter.unusedSimpArgs false
set_option linter.unusedVariables false
namespace PI
open Go Go.RowKit
theorem refFrees_get : ∀ {ps : List PV}, refFrees ps = true → ∀ p ∈ ps, refFree p = true
  | [], _, p, hp => by simp at hp
  | x :: xs, h, p, hp => by
    simp only [refFrees, Bool.and_eq_true] at h
    rcases List.mem_cons.1 hp with rfl | hp
    · exact h.1
    · exact refFrees_get h.2 p hp
theorem refFree_cells {p : PV} (h : refFree p = true) : ∀ x ∈ p.cells, refFree x = true := by
  intro x hx
  cases p <;> simp only [PV.cells, List.mem_singleton] at hx <;> first | (subst hx; exact h) | (simp at hx; done) | skip
  exact refFrees_get (by simpa [refFree] using h) x hx
theorem VR.free {N : Nm} {w : World} {fix : Nat → Nat → Prop} {hp hp' : Nat → Option Nat} {v : Value} {p : PV} (h : VR N w fix hp v p) (hr : refFree p = true) : VR N w fix hp' v p := by
  induction h with
  | bool b => exact .bool b
  | int k n => exact .int k n
  | str s => exact .str s
  | nils own => exact .nils own
  | void own a cap => exact .void own a cap
  | nils' => exact .nils'
  | void' a cap => exact .void' a cap
  | list own b off len cap sz es cv hlen hcap hsz hflat hcell _ ih =>
    refine .list own b off len cap sz es cv hlen hcap hsz hflat hcell (fun i e he j x hx => ih i e he j x hx ?_)
    have := refFrees_get (by simpa [refFree] using hr) e (List.mem_of_getElem? he)
    exact refFree_cells this x (List.mem_of_getElem? hx)
  | agg cs ps hlen hflat hown _ ih => exact .agg cs ps hlen hflat hown (fun i c p hc hp => ih i c p hc hp (refFrees_get (by simpa [refFree] using hr) p (List.mem_of_getElem? hp)))
  | tuple cs ps hlen _ ih => exact .tuple cs ps hlen (fun i c p hc hp => ih i c p hc hp (refFrees_get (by simpa [refFree] using hr) p (List.mem_of_getElem? hp)))
  | nilptr => exact .nilptr
  | cptr b off ps cv hflat hcell _ ih => exact .cptr b off ps cv hflat hcell (fun k x hx => ih k x hx (refFrees_get (by simpa [refFree] using hr) x (List.mem_of_getElem? hx)))
  | ptr n off b h => simp [refFree] at hr
  | rowp n sz agg len b cap h hcap hsh => simp [refFree] at hr
  | mapn => exact .mapn
  | map n b h => simp [refFree] at hr
  | yield k n l y tmps caps h0 hl hr0 hlen _ _ => simp [refFree, refFrees] at hr
  | func k fs cs pf pc h0 h1 h2 _ _ ihf ihc =>
    simp only [refFree, Bool.and_eq_true] at hr
    exact .func k fs cs pf pc h0 h1 h2 (fun i c p hc hp => ihf i c p hc hp (refFrees_get hr.1 p (List.mem_of_getElem? hp))) (fun i c p hc hp => ihc i c p hc hp (refFrees_get hr.2 p (List.mem_of_getElem? hp)))
  | nilfunc => exact .nilfunc
  | iface t v p _ ih => exact .iface t v p (ih (by simpa [refFree] using hr))
  | nilIface => exact .nilIface
theorem VR.cp_dem {N : Nm} {w : World} {fix : Nat → Nat → Prop} {hp : Nat → Option Nat} {v : Value} {p : PV} (h : VR N w fix hp v p) : cp (PI.dem p) = some (PI.dem p) := by
  cases h <;> rfl
structure HeapOnly (G : GS) : Prop where
  ow : ∀ b k, G.ow b = some k → k.isH = true
  box : ∀ g, G.box g = none
structure Between (N : Nm) (w : World) (G : GS) (h : List PObj) : Prop where
  only : HeapOnly G
  fixlt : ∀ b o, G.fix b o → b < w.heap.size
  owlt : ∀ b k, G.ow b = some k → b < w.heap.size
  heap : HR N w G h
  hdom : ∀ n b, G.heap n = some b → n < h.length
def CallOK (N : Nm) (P : Program) (cf : CallF) : Prop :=
  ∀ (k : Nat) (args : List PV) (r : PV) (h h' : List PObj), cf k args h = some (r, h') → N.yl k = none ∧ ∀ (w : World) (G : GS) (vals : Array Value), Between N w G h → vals.size = args.length →
    (∀ (i : Nat) (v : Value) (p : PV), vals[i]? = some v → args[i]? = some p → VR N w G.fix G.heap v p) →
    Calls P (N.fn k) vals w fun e w' => ∃ v G', e = .returned v ∧ VR N w' G'.fix G'.heap v r ∧ Ext w G w' G' ∧ Between N w' G' h'
theorem Room.sub {w : World} {G G' : GS} {key : Key} {v : Value} {es : List PV} (h : Room w G key v es) (hf : G'.fix = G.fix) (ho : ∀ b, G.ow b = some key → G'.ow b = some key) : Room w G' key v es := by
  unfold Room at *
  split at h
  · rename_i a len cap
    rcases h with h | ⟨h1, sz, cs, T, h2, h3, h4, h5, h6⟩
    · exact .inl h
    · exact .inr ⟨ho _ h1, sz, cs, T, h2, h3, h4, h5, by rw [hf]; exact h6⟩
  · trivial
theorem HR.sub {N : Nm} {w : World} {G G' : GS} {heap : List PObj} (h : HR N w G heap) (hf : G'.fix = G.fix) (hh : G'.heap = G.heap) (ho : ∀ b k, k.isH = true → G.ow b = some k → G'.ow b = some k) : HR N w G' heap := by
  refine ⟨?_, by rw [hf]; exact h.2⟩
  intro n ob hob
  rcases h.1 n ob hob with rfl | ⟨b, h1, h2, h3⟩
  · exact .inl rfl
  refine .inr ⟨b, by rw [hh]; exact h1, ho _ _ rfl h2, ?_⟩
  cases ob with
  | cells cs =>
    obtain ⟨f, cv, T, a1, a2, a3⟩ := h3
    refine ⟨by rw [hf]; exact f, cv, T, a1, a2, ?_⟩
    intro k c x hc hx
    obtain ⟨b1, b2, b3⟩ := a3 k c x hc hx
    refine ⟨by rw [hf, hh]; exact b1, b2, ?_⟩
    split at b3
    · exact b3.sub hf (fun b => ho b _ rfl)
    · trivial
  | map es =>
    obtain ⟨mes, clock, a1, a2, a3, a4, a5⟩ := h3
    refine ⟨mes, clock, a1, a2, a3, a4, ?_⟩
    intro i e p hi hp
    obtain ⟨b1, b2, b3⟩ := a5 i e p hi hp
    refine ⟨by rw [hf, hh]; exact b1, by rw [hf, hh]; exact b2, ?_⟩
    split at b3
    · exact b3.sub hf (fun b => ho b _ rfl)
    · trivial
  | bld bs =>
    obtain ⟨f, p, v, a1, a2, a3⟩ := h3
    refine ⟨by rw [hf]; exact f, p, v, a1, a2, ?_⟩
    rcases a3 with a3 | ⟨g, cap, cur, b1, b2, b3, b4⟩
    · exact .inl a3
    · exact .inr ⟨g, cap, cur, b1, ho _ _ rfl b2, by rw [hf]; exact b3, b4⟩
  | siter s pos =>
    obtain ⟨f, s', a1, a2⟩ := h3
    exact ⟨by rw [hf]; exact f, s', a1, a2⟩
  | gone => trivial
  | loop ready =>
    obtain ⟨f, r, a1, a2⟩ := h3
    exact ⟨by rw [hf]; exact f, r, a1, a2⟩
def onlyH (ow : Nat → Option Key) (b : Nat) : Option Key :=
  match ow b with
  | some k => if k.isH then some k else none
  | none => none
theorem onlyH_some {ow : Nat → Option Key} {b : Nat} {k : Key} (h : onlyH ow b = some k) : ow b = some k ∧ k.isH = true := by
  unfold onlyH at h
  split at h
  · split at h
    · simp at h; subst h; exact ⟨by assumption, by assumption⟩
    · simp at h
  · simp at h
theorem onlyH_of {ow : Nat → Option Key} {b : Nat} {k : Key} (h : ow b = some k) (hk : k.isH = true) : onlyH ow b = some k := by
  simp [onlyH, h, hk]
def FnsOK (N : Nm) (P : Program) (L : Nat → Option PFunc) : Prop :=
  ∀ k f, L k = some f → ∃ fn, P.funcs[N.fn k]? = some fn ∧ fn.name ≠ "runtime.NumGoroutine" ∧ fn.body.isNone = false
section
variable {E : Env} {N : Nm} {w : World} {G : GS} {st : St} {a : Act} {vs : List Tmp} {ops : List Oper} {P : Program}
variable {o : Oper} {j : Nat} {next : Act → World → Prop} {Q : Exit → Act → World → Prop} {u : PV} {st1 : St}
theorem run_callFunc {L : Nat → Option PFunc} (hF : FnsOK N P L) {k : Nat} {f : PFunc} (hL : L k = some f) (args : Array Value) (w : World) : (callFunc (N.fn k) args).run P w = .ok (.enter (N.fn k) args) w := by
  obtain ⟨fn, h1, h2, h3⟩ := hF k f hL
  have h2' : (fn.name == "runtime.NumGoroutine") = false := by simpa using h2
  simp only [callFunc, Sem.run_bind, run_program, Result.andThen_ok, h1, h2', h3, Bool.false_eq_true, if_false, Sem.run_pure]
theorem called_sound (nm : Names vs (lmap vs ops)) (ho : ops[j]? = some o) (hf : FI N w G st a vs (lmap vs ops)) {cf : CallF} (hcf : CallOK N P cf) {k : Nat} {args : List PV} {vals : Array Value} {r : PV} {h' : List PObj}
    (hsz : vals.size = args.length) (hv : ∀ (i : Nat) (v : Value) (p : PV), vals[i]? = some v → args[i]? = some p → VR N w G.fix G.heap v p) (hfree : refFrees args = true) (hc : cf k args [] = some (r, h')) (hr : refFree r = true)
    (hrun : (execOp a.eval o).run P w = .ok (.enter (N.fn k) vals) w) (hk : Goes N w G a st (dem r) vs ops j o next) : o.wp P a w next Q := by
  unfold Oper.wp
  rw [hrun]
  let Gc : GS := { fix := G.fix, heap := fun _ => none, box := fun _ => none, ow := fun _ => none }
  have hbt : Between N w Gc [] := ⟨⟨by intro b k h; simp [Gc] at h, fun _ => rfl⟩, hf.fixlt, by intro b k h; simp [Gc] at h, ⟨by intro n ob h; simp at h, hf.heap.2⟩, by intro n b h; simp [Gc] at h⟩
  refine ((hcf k args r [] h' hc).2 w Gc vals hbt hsz (fun i v p h1 h2 => (hv i v p h1 h2).free (refFrees_get hfree p (List.mem_of_getElem? h2)))).mono ?_
  rintro e w' ⟨v, G2, rfl, hvr, he, hb2⟩
  let G' : GS := { G with fix := G2.fix }
  have hblock : ∀ b, b < w.heap.size → w'.heap[b]? = w.heap[b]? := fun b hb => he.same b hb rfl
  have hnew : ∀ b o, G2.fix b o → G.fix b o ∨ w.heap.size ≤ b := by
    intro b o h
    rcases he.newfix b o h with h | h | h
    · exact .inl h
    · exact .inr h
    · exact absurd rfl h
  have hext : Ext w G w' G' := by
    refine ⟨he.os, he.tape, he.output, he.size, fun b hlt _ => hblock b hlt, fun b o h => he.fix b o h, ?_, fun _ h => .inr h, fun _ _ h => h, he.shape, rfl⟩
    intro b o h
    rcases hnew b o h with h | h
    · exact .inl h
    · exact .inr (.inl h)
  have hkeep : Keep (fun _ => False) w G w' G' := by
    refine ⟨?_, fun _ _ h => h⟩
    intro b key hb' _
    have hlt' := hf.owlt _ _ hb'
    refine ⟨hb', hblock b hlt', ?_⟩
    intro o h
    rcases hnew b o h with h | h
    · exact h
    · omega
  have hf1 := hf.ext (G' := G') hext hkeep hf.gen (fun b key h => Nat.lt_of_lt_of_le (hf.owlt b key h) he.size) hb2.fixlt
  have hvr' : VR N w' G'.fix G'.heap v (dem r) := (hvr.free hr).dem
  exact hk _ _ G' (hf1.put nm (cDst_ok ho) (SR.of_pure hvr' hvr.cp_dem)) hext (put_size _ _ _)
theorem called_heap (nm : Names vs (lmap vs ops)) (ho : ops[j]? = some o) (hf : FI N w G st a vs (lmap vs ops)) {cf : CallF} (hcf : CallOK N P cf) {k : Nat} {args : List PV} {vals : Array Value} {r : PV} {h' : List PObj}
    (hsz : vals.size = args.length) (hv : ∀ (i : Nat) (v : Value) (p : PV), vals[i]? = some v → args[i]? = some p → VR N w G.fix G.heap v p) (hc : cf k args st.heap = some (r, h'))
    (hrun : (execOp a.eval o).run P w = .ok (.enter (N.fn k) vals) w) (hk : Goes N w G a { st with heap := h' } (dem r) vs ops j o next) : o.wp P a w next Q := by
  unfold Oper.wp
  rw [hrun]
  let Gc : GS := { fix := G.fix, heap := G.heap, box := fun _ => none, ow := onlyH G.ow }
  have hbt : Between N w Gc st.heap := ⟨⟨fun b k h => (onlyH_some h).2, fun _ => rfl⟩, hf.fixlt, fun b k h => hf.owlt b k (onlyH_some h).1, hf.heap.sub rfl rfl (fun b k hk h => onlyH_of h hk), hf.hdom⟩
  refine ((hcf k args r st.heap h' hc).2 w Gc vals hbt hsz hv).mono ?_
  rintro e w' ⟨v, G2, rfl, hvr, he, hb2⟩
  let G' : GS := { fix := G2.fix, heap := G2.heap, box := G.box, ow := fun b => match G.ow b with | some k => if k.isH then G2.ow b else some k | none => G2.ow b, df := G.df }
  have hext : Ext w G w' G' := by
    refine ⟨he.os, he.tape, he.output, he.size, fun b hlt h => he.same b hlt (by simp [Gc, onlyH, h]), fun b o h => he.fix b o h, ?_, ?_, he.heap, he.shape, rfl⟩
    · intro b o h
      rcases he.newfix b o h with h | h | h
      · exact .inl h
      · exact .inr (.inl h)
      · refine .inr (.inr ?_)
        intro e
        apply h
        simp [Gc, onlyH, e]
    · intro b h
      cases hb : G.ow b with
      | some k => exact .inr (by simp)
      | none =>
        simp only [G', hb] at h
        rcases he.own b h with h | h
        · exact .inl h
        · exact absurd (by simp [Gc, onlyH, hb]) h
  have hkeep : Keep (fun k => k.isH = true) w G w' G' := by
    refine ⟨?_, fun _ _ h => h⟩
    intro b key hb' hn
    have hlt' := hf.owlt _ _ hb'
    have hnone : Gc.ow b = none := by simp [Gc, onlyH, hb', hn]
    refine ⟨by simp [G', hb', hn], he.same b hlt' hnone, ?_⟩
    intro o h
    rcases he.newfix b o h with h | h | h
    · exact h
    · omega
    · exact absurd hnone h
  have hheap : HR N w' G' h' := by
    refine hb2.heap.sub rfl rfl ?_
    intro b k hkH h
    cases hb : G.ow b with
    | none => simp only [G', hb]; exact h
    | some k0 =>
      by_cases hk0 : k0.isH = true
      · simp only [G', hb, hk0, if_true]; exact h
      · have hnone : Gc.ow b = none := by simp [Gc, onlyH, hb, hk0]
        have hlt := hf.owlt _ _ hb
        rcases he.own b (by rw [h]; simp) with h2 | h2
        · omega
        · exact absurd hnone h2
  have hf1 : FI N w' G' { st with heap := h' } a vs (lmap vs ops) := by
    refine ⟨hf.len, fun i t u h1 h2 => (hf.var i t u h1 h2).keep hext hkeep (by simp [Key.isH]) (by simp [Key.isH]), fun j t u h1 h2 => (hf.loc j t u h1 h2).keep hext hkeep (by simp [Key.isH]) (by simp [Key.isH]), hf.tv, hf.tl, (hf.defers.trans hext.df.symm), hf.gen, ?_, hb2.fixlt, hheap, hb2.hdom⟩
    intro b k h
    cases hb : G.ow b with
    | some k0 => exact Nat.lt_of_lt_of_le (hf.owlt _ _ hb) he.size
    | none =>
      simp only [G', hb] at h
      exact hb2.owlt _ _ h
  exact hk _ _ G' (hf1.put nm (cDst_ok ho) (SR.of_pure hvr.dem hvr.cp_dem)) hext (put_size _ _ _)
theorem vals_of {xs : Array Operand} {us : List PV} (h1 : xs.toList.length = us.length) (h2 : ∀ (i : Nat) (x : Operand) (u : PV), xs.toList[i]? = some x → us[i]? = some u → VR N w G.fix G.heap (a.eval x) u ∧ cp u = some u) :
    (xs.map a.eval).size = us.length ∧ ∀ (i : Nat) (v : Value) (p : PV), (xs.map a.eval)[i]? = some v → us[i]? = some p → VR N w G.fix G.heap v p := by
  refine ⟨by simpa using h1, ?_⟩
  intro i v p hv hp
  simp only [Array.getElem?_map, Option.map_eq_some_iff] at hv
  obtain ⟨x, hx, rfl⟩ := hv
  exact (h2 i x p (by simpa using hx) hp).1
theorem pcall_sound {L : Nat → Option PFunc} (hF : FnsOK N P L) (hE : EnvOk E N) (nm : Names vs (lmap vs ops)) (ho : ops[j]? = some o) (hf : FI N w G st a vs (lmap vs ops)) {cf : CallF} (hcf : CallOK N P cf) (hcL : ∀ k args h r, cf k args h = some r → ∃ f, L k = some f)
    {f : FuncId} {k : Nat} {xs : Array Operand} {ts : Array TypeId} {pxs : List PX} (hop : o.op = .call { callee := .value (.func f), args := xs, argTypes := ts }) (hk' : E.inv f = some k) (hx : cxs E vs ops xs.toList = some pxs)
    (hs : opv cf (.pcall k pxs) st = some (u, st1)) (hk : Goes N w G a st1 u vs ops j o next) : o.wp P a w next Q := by
  simp only [opv] at hs
  split at hs
  · rename_i us hus
    split at hs
    · rename_i hfree
      split at hs
      · rename_i r h' hc
        split at hs
        · rename_i hr
          simp only [Option.some.injEq, Prod.mk.injEq] at hs
          obtain ⟨rfl, rfl⟩ := hs
          obtain ⟨h1, h2⟩ := rdAll_sound hE hf hx hus
          obtain ⟨g1, g2⟩ := vals_of (w := w) (G := G) h1 h2
          obtain ⟨pf, hL⟩ := hcL _ _ _ _ hc
          have hfn := hE.fn _ _ hk'
          refine called_sound nm ho hf hcf g1 g2 hfree hc hr ?_ hk
          have := run_callFunc hF hL (xs.map a.eval) w
          rw [hfn] at this
          rw [hfn]
          simp [execOp, hop, resolve, Act.eval, Deferred.ofValue, invoke]
          exact this
        · simp at hs
      · simp at hs
    · simp at hs
  · simp at hs
theorem callv_sound {L : Nat → Option PFunc} (hF : FnsOK N P L) (hE : EnvOk E N) (nm : Names vs (lmap vs ops)) (ho : ops[j]? = some o) (hf : FI N w G st a vs (lmap vs ops)) {cf : CallF} (hcf : CallOK N P cf) (hcL : ∀ k args h r, cf k args h = some r → ∃ f, L k = some f)
    {t : Tmp} {px : PX} {xs : Array Operand} {ts : Array TypeId} {pxs : List PX} (hop : o.op = .call { callee := .value (.tmp t), args := xs, argTypes := ts }) (hpx : cx E vs ops (.tmp t) = some px) (hx : cxs E vs ops xs.toList = some pxs)
    (hs : opv cf (.callv px pxs) st = some (u, st1)) (hk : Goes N w G a st1 u vs ops j o next) : o.wp P a w next Q := by
  simp only [opv] at hs
  split at hs
  · rename_i k first captured us hfv hus
    split at hs
    · rename_i hfree
      split at hs
      · rename_i r h' hc
        split at hs
        · rename_i hr
          simp only [Option.some.injEq, Prod.mk.injEq] at hs
          obtain ⟨rfl, rfl⟩ := hs
          obtain ⟨h1, h2⟩ := rdAll_sound hE hf hx hus
          obtain ⟨g1, g2⟩ := vals_of (w := w) (G := G) h1 h2
          obtain ⟨pf, hL⟩ := hcL _ _ _ _ hc
          have hfun := (rd_sound hE hpx hf hfv).1
          generalize hv : a.eval (.tmp t) = v at hfun
          cases hfun with
          | yield _ _ _ _ _ _ hy => rw [(hcf _ _ _ _ _ hc).1] at hy; simp at hy
          | func _ fs cs _ _ _ e1 e2 hfs hcs =>
            refine called_sound (vals := fs ++ xs.map a.eval ++ cs) nm ho hf hcf (by simp [e1, e2]; simpa using h1) ?_ hfree hc hr ?_ hk
            · intro i v p hv' hp
              by_cases hi : i < fs.size
              · rw [Array.append_assoc, Array.getElem?_append_left hi] at hv'
                rw [List.append_assoc, List.getElem?_append_left (by omega)] at hp
                exact hfs i v p hv' hp
              · rw [Array.append_assoc, Array.getElem?_append_right (by omega)] at hv'
                rw [List.append_assoc, List.getElem?_append_right (by omega), ← e1] at hp
                by_cases hi2 : i - fs.size < (xs.map a.eval).size
                · rw [Array.getElem?_append_left hi2] at hv'
                  rw [List.getElem?_append_left (by omega)] at hp
                  exact g2 _ v p hv' hp
                · rw [Array.getElem?_append_right (by omega)] at hv'
                  rw [List.getElem?_append_right (by omega), ← g1] at hp
                  exact hcs _ v p hv' hp
            · have := run_callFunc hF hL (fs ++ xs.map a.eval ++ cs) w
              simp only [execOp, hop, resolve, Sem.run_bind, hv, Deferred.ofValue, Sem.run_pure, Result.andThen_ok, invoke]
              exact this
        · simp at hs
      · simp at hs
    · simp at hs
  · simp at hs
theorem hcall_sound {L : Nat → Option PFunc} (hF : FnsOK N P L) (hE : EnvOk E N) (nm : Names vs (lmap vs ops)) (ho : ops[j]? = some o) (hf : FI N w G st a vs (lmap vs ops)) {cf : CallF} (hcf : CallOK N P cf) (hcL : ∀ k args h r, cf k args h = some r → ∃ f, L k = some f)
    {f : FuncId} {k : Nat} {xs : Array Operand} {ts : Array TypeId} {pxs : List PX} (hop : o.op = .call { callee := .value (.func f), args := xs, argTypes := ts }) (hk' : E.inv f = some k) (hx : cxs E vs ops xs.toList = some pxs)
    (hs : hopv cf (.call k pxs) st = some (u, st1)) (hk : Goes N w G a st1 u vs ops j o next) : o.wp P a w next Q := by
  simp only [hopv, Option.bind_eq_some_iff, Option.map_eq_some_iff, Prod.mk.injEq] at hs
  obtain ⟨us, hus, ⟨r, h'⟩, hc, rfl, rfl⟩ := hs
  obtain ⟨h1, h2⟩ := rdAll_sound hE hf hx hus
  obtain ⟨g1, g2⟩ := vals_of (w := w) (G := G) h1 h2
  obtain ⟨pf, hL⟩ := hcL _ _ _ _ hc
  have hfn := hE.fn _ _ hk'
  refine called_heap nm ho hf hcf g1 g2 hc ?_ hk
  have := run_callFunc hF hL (xs.map a.eval) w
  rw [hfn] at this
  rw [hfn]
  simp [execOp, hop, resolve, Act.eval, Deferred.ofValue, invoke]
  exact this
theorem hcallv_sound {L : Nat → Option PFunc} (hF : FnsOK N P L) (hE : EnvOk E N) (nm : Names vs (lmap vs ops)) (ho : ops[j]? = some o) (hf : FI N w G st a vs (lmap vs ops)) {cf : CallF} (hcf : CallOK N P cf) (hcL : ∀ k args h r, cf k args h = some r → ∃ f, L k = some f)
    {t : Tmp} {px : PX} {xs : Array Operand} {ts : Array TypeId} {pxs : List PX} (hop : o.op = .call { callee := .value (.tmp t), args := xs, argTypes := ts }) (hpx : cx E vs ops (.tmp t) = some px) (hx : cxs E vs ops xs.toList = some pxs)
    (hs : hopv cf (.callv px pxs) st = some (u, st1)) (hk : Goes N w G a st1 u vs ops j o next) : o.wp P a w next Q := by
  simp only [hopv] at hs
  split at hs
  · rename_i k first captured us hfv hus
    simp only [Option.map_eq_some_iff, Prod.mk.injEq] at hs
    obtain ⟨⟨r, h'⟩, hc, rfl, rfl⟩ := hs
    obtain ⟨h1, h2⟩ := rdAll_sound hE hf hx hus
    obtain ⟨g1, g2⟩ := vals_of (w := w) (G := G) h1 h2
    obtain ⟨pf, hL⟩ := hcL _ _ _ _ hc
    have hfun := (rd_sound hE hpx hf hfv).1
    generalize hv : a.eval (.tmp t) = v at hfun
    cases hfun with
    | yield _ _ _ _ _ _ hy => rw [(hcf _ _ _ _ _ hc).1] at hy; simp at hy
    | func _ fs cs _ _ _ e1 e2 hfs hcs =>
      refine called_heap (vals := fs ++ xs.map a.eval ++ cs) nm ho hf hcf (by simp [e1, e2]; simpa using h1) ?_ hc ?_ hk
      · intro i v p hv' hp
        by_cases hi : i < fs.size
        · rw [Array.append_assoc, Array.getElem?_append_left hi] at hv'
          rw [List.append_assoc, List.getElem?_append_left (by omega)] at hp
          exact hfs i v p hv' hp
        · rw [Array.append_assoc, Array.getElem?_append_right (by omega)] at hv'
          rw [List.append_assoc, List.getElem?_append_right (by omega), ← e1] at hp
          by_cases hi2 : i - fs.size < (xs.map a.eval).size
          · rw [Array.getElem?_append_left hi2] at hv'
            rw [List.getElem?_append_left (by omega)] at hp
            exact g2 _ v p hv' hp
          · rw [Array.getElem?_append_right (by omega)] at hv'
            rw [List.getElem?_append_right (by omega), ← g1] at hp
            exact hcs _ v p hv' hp
      · have := run_callFunc hF hL (fs ++ xs.map a.eval ++ cs) w
        simp only [execOp, hop, resolve, Sem.run_bind, hv, Deferred.ofValue, Sem.run_pure, Result.andThen_ok, invoke]
        exact this
  · simp at hs
theorem hop_sound {L : Nat → Option PFunc} (hF : FnsOK N P L) (hE : EnvOk E N) (hP : E.P = P) (nm : Names vs (lmap vs ops)) (ho : ops[j]? = some o) (hf : FI N w G st a vs (lmap vs ops)) {cf : CallF} (hcf : CallOK N P cf)
    (hcL : ∀ k args h r, cf k args h = some r → ∃ f, L k = some f) {po : HOp} (hc : cHeap E vs ops o = some po) (hs : hopv cf po st = some (u, st1)) (hk : Goes N w G a st1 u vs ops j o next) : o.wp P a w next Q := by
  subst hP
  unfold cHeap at hc
  split at hc
  · rename_i t hop
    split at hc
    · simp at hc
    · split at hc
      · rename_i hb
        simp only [Option.some.injEq] at hc
        subst hc
        exact newbld_sound hE rfl nm ho hf hop hb hs hk
      · simp only [Option.map_eq_some_iff] at hc
        obtain ⟨z, hz, rfl⟩ := hc
        exact newobj_sound nm ho hf hop hz hs hk
  · rename_i t x hop
    split at hc
    · simp at hc
    · simp only [Option.bind_eq_some_iff, Option.map_eq_some_iff] at hc
      obtain ⟨n, hn, p, hp, rfl⟩ := hc
      exact boxobj_sound hE nm ho hf hop hn hp hs hk
  · rename_i t x hop
    split at hc
    · simp only [Option.bind_eq_some_iff, Option.map_eq_some_iff] at hc
      obtain ⟨n, hn, p, hp, rfl⟩ := hc
      exact hload_sound hE nm ho hf hop hn hp hs hk
    · split at hc
      · simp only [Option.bind_eq_some_iff, Option.map_eq_some_iff] at hc
        obtain ⟨n, hn, p, hp, rfl⟩ := hc
        exact loadc_sound hE nm ho hf hop hn hp hs hk
      · simp at hc
  · rename_i t x y hop
    split at hc
    · rename_i hd
      simp only [Option.bind_eq_some_iff, Option.map_eq_some_iff] at hc
      obtain ⟨n, hn, p, hp, q, hq, hc⟩ := hc
      split at hc
      · subst hc
        exact hstorer_sound hE nm ho hf hop hd.1 hn hp hq hs hk
      · subst hc
        exact hstore_sound hE nm ho hf hop hd.1 hn hp hq hs hk
    · simp at hc
  · rename_i t x i hop
    split at hc
    · rename_i len e hu
      split at hc
      · simp only [Option.bind_eq_some_iff, Option.map_eq_some_iff] at hc
        obtain ⟨n, hn, p, hp, q, hq, rfl⟩ := hc
        exact hiaddr_sound hE nm ho hf hop hu hn hp hq hs hk
      · simp at hc
    · simp at hc
  · rename_i t hop
    split at hc
    · simp at hc
    · simp only [Option.some.injEq] at hc
      subst hc
      exact mkmap_sound nm ho hf hop hs hk
  · rename_i t m k ok hop
    split at hc
    · rename_i kt e hu
      simp only [Option.bind_eq_some_iff, Option.map_eq_some_iff] at hc
      obtain ⟨kk, hkk, z, hz, p, hp, q, hq, rfl⟩ := hc
      exact lookup_sound hE nm ho hf hop hu hkk hz hp hq hs hk
    · simp at hc
  · rename_i t m k v hop
    split at hc
    · rename_i kt e hu
      split at hc
      · rename_i hd
        simp only [Option.bind_eq_some_iff, Option.map_eq_some_iff] at hc
        obtain ⟨kk, hkk, p, hp, q, hq, r, hr, rfl⟩ := hc
        exact mset_sound hE nm ho hf (.inl hop) hd hu hkk hp hq hr hs hk
      · simp at hc
    · simp at hc
  · rename_i t m k v hop
    split at hc
    · rename_i kt e hu
      split at hc
      · rename_i hd
        simp only [Option.bind_eq_some_iff, Option.map_eq_some_iff] at hc
        obtain ⟨kk, hkk, p, hp, q, hq, r, hr, rfl⟩ := hc
        exact mset_sound hE nm ho hf (.inr hop) hd hu hkk hp hq hr hs hk
      · simp at hc
    · simp at hc
  · rename_i op t x y t' hop
    split at hc
    · rename_i hcond
      simp only [Option.bind_eq_some_iff, Option.map_eq_some_iff] at hc
      obtain ⟨kd, hkd, p, hp, rfl⟩ := hc
      exact isnil_sound hE nm ho hf hop hcond hkd hp hs hk
    · simp at hc
  · rename_i x hop
    simp only [Option.map_eq_some_iff] at hc
    obtain ⟨p, hp, rfl⟩ := hc
    exact nilchk_sound hE nm ho hf hop hp hs hk
  · rename_i t l c' hop
    split at hc
    · rename_i e hu
      split at hc
      · rename_i size z hn hz
        split at hc
        · simp at hc
        · rename_i hcond
          simp only [Bool.or_eq_true, not_or, Bool.not_eq_true, Bool.not_eq_false'] at hcond
          simp only [Option.map_eq_some_iff] at hc
          obtain ⟨p, hp, rfl⟩ := hc
          exact mkarr_sound hE nm ho hf hop hu hn hz hcond.2 hp hs hk
      · simp at hc
    · simp at hc
  · rename_i t x hop
    split at hc
    · rename_i hu
      split at hc
      · simp at hc
      · simp only [Option.map_eq_some_iff] at hc
        obtain ⟨p, hp, rfl⟩ := hc
        exact range_sound hE nm ho hf hop hu hp hs hk
    · simp at hc
  · rename_i x hop
    split at hc
    · simp at hc
    · simp only [Option.map_eq_some_iff] at hc
      obtain ⟨p, hp, rfl⟩ := hc
      exact next_sound hE nm ho hf hop hp hs hk
  · rename_i t parts hop
    split at hc
    · rename_i n e hu
      split at hc
      · rename_i size z hn hz
        simp only [Option.map_eq_some_iff] at hc
        obtain ⟨ps, hps, rfl⟩ := hc
        exact barr_sound hE nm ho hf hop hu hn hz hps hs hk
      · simp at hc
    · simp at hc
  · rename_i t x i hop
    split at hc
    · rename_i len e hu
      simp only [Option.bind_eq_some_iff, Option.map_eq_some_iff] at hc
      obtain ⟨n, hn, p, hp, q, hq, rfl⟩ := hc
      exact idxA_sound hE nm ho hf hop hu hn hp hq hs hk
    · simp at hc
  · rename_i fn xs ys hop
    split at hc
    · simp at hc
    · simp only [Option.bind_eq_some_iff, Option.map_eq_some_iff] at hc
      obtain ⟨f, hfn, k, hk', ps, hps, qs, hqs, rfl⟩ := hc
      have : fn = .func f := by
        unfold isFn at hfn
        split at hfn
        · simp at hfn; subst hfn; rfl
        · simp at hfn
      subst this
      exact mkfunc_sound hE nm ho hf hop hk' hps hqs hs hk
  · rename_i args ts hop
    obtain ⟨args⟩ := args
    obtain ⟨ts⟩ := ts
    split at hc
    · rename_i s x t1 t2 hargs hts
      simp only at hargs hts
      subst hargs hts
      split at hc
      · split at hc
        · rename_i e e' hu hu'
          split at hc
          · rename_i size z hn hz
            simp only [Option.bind_eq_some_iff, Option.map_eq_some_iff] at hc
            obtain ⟨p, hp, q, hq, rfl⟩ := hc
            exact happ_sound hE nm ho hf hop hu hu' hn hz hp hq hs hk
          · simp at hc
        · simp at hc
      · simp at hc
    · simp at hc
  · rename_i args ts hop
    obtain ⟨args⟩ := args
    obtain ⟨ts⟩ := ts
    split at hc
    · rename_i x t rest hargs hts
      simp only at hargs hts
      subst hargs hts
      split at hc
      · rename_i kt e hu
        split at hc
        · simp at hc
        · simp only [Option.map_eq_some_iff] at hc
          obtain ⟨p, hp, rfl⟩ := hc
          exact mlen_sound hE nm ho hf hop rfl hu hp hs hk
      · simp at hc
    · simp at hc
  · rename_i f args ts hop
    split at hc
    · simp only [Option.bind_eq_some_iff, Option.map_eq_some_iff] at hc
      obtain ⟨k, hk', ps, hps, rfl⟩ := hc
      exact hcall_sound hF hE nm ho hf hcf hcL hop hk' hps hs hk
    · simp at hc
  · rename_i t args ts hop
    split at hc
    · simp only [Option.bind_eq_some_iff, Option.map_eq_some_iff] at hc
      obtain ⟨p, hp, ps, hps, rfl⟩ := hc
      exact hcallv_sound hF hE nm ho hf hcf hcL hop hp hps hs hk
    · simp at hc
  · simp at hc
theorem op_sound {L : Nat → Option PFunc} (hF : FnsOK N P L) (hE : EnvOk E N) (hP : E.P = P) (nm : Names vs (lmap vs ops)) (ho : ops[j]? = some o) (hf : FI N w G st a vs (lmap vs ops)) {cf : CallF} (hcf : CallOK N P cf)
    (hcL : ∀ k args h r, cf k args h = some r → ∃ f, L k = some f) {po : POp} (hc : cOp E vs ops o = some po) (hs : opv cf po st = some (u, st1)) (hk : Goes N w G a st1 u vs ops j o next) : o.wp P a w next Q := by
  unfold cOp at hc
  simp only at hc
  split at hc
  · rename_i h hch
    simp only [Option.some.injEq] at hc
    subst hc
    exact hop_sound hF hE hP nm ho hf hcf hcL hch (by simpa [opv] using hs) hk
  rename_i hnone
  subst hP
  split at hc
  ·
    rename_i x hop
    simp only [Option.map_eq_some_iff] at hc
    obtain ⟨p, hp, rfl⟩ := hc
    split at hs
    · exact take_sound hE nm ho hf (by simp [execOp, hop]) hp (by simpa [opv] using hs) hk
    · exact mov_sound hE nm ho hf (by simp [execOp, hop]) hp (by simpa [opv] using hs) hk
  · rename_i x hop
    simp only [Option.map_eq_some_iff] at hc
    obtain ⟨p, hp, rfl⟩ := hc
    exact take_sound hE nm ho hf (by simp [execOp, hop]) hp (by simpa [opv] using hs) hk
  · rename_i x y z hop
    simp only [Option.bind_eq_some_iff, Option.map_eq_some_iff] at hc
    obtain ⟨px, hpx, pa, hpa, pb, hpb, rfl⟩ := hc
    exact pick_sound hE nm ho hf hop hpx hpa hpb hs hk
  · rename_i t hop
    split at hc
    · rename_i hv
      simp only [Option.map_eq_some_iff] at hc
      obtain ⟨z, hz, rfl⟩ := hc
      exact newloc_sound nm ho hf hop hz hv hs hk
    · simp at hc
  · rename_i t x hop
    split at hc
    · rename_i hv
      simp only [Option.bind_eq_some_iff, Option.map_eq_some_iff] at hc
      obtain ⟨n, hn, p, hp, rfl⟩ := hc
      exact boxloc_sound hE nm ho hf hop hn hp hv hs hk
    · simp at hc
  · rename_i t parts hop
    split at hc
    · rename_i fs z hu hz
      split at hc
      · rename_i places hpl
        simp only [Option.map_eq_some_iff] at hc
        obtain ⟨ps, hps, rfl⟩ := hc
        exact build_sound hE nm ho hf hop hu hz hpl hps hs hk
      · simp at hc
    · simp at hc
  · rename_i t len parts hop
    split at hc
    · rename_i e hu
      split at hc
      · rename_i size z hn hz
        split at hc
        · rename_i hlen
          simp only [Option.map_eq_some_iff] at hc
          obtain ⟨ps, hps, rfl⟩ := hc
          exact mkslice_sound hE nm ho hf hop hu hn hz hlen hps hs hk
        · simp at hc
      · simp at hc
    · simp at hc
  · rename_i t x hop
    simp only [Option.bind_eq_some_iff, Option.map_eq_some_iff] at hc
    obtain ⟨n, hn, p, hp, rfl⟩ := hc
    exact load_sound hE nm ho hf hop hn hp hs hk
  · rename_i t x y hop
    split at hc
    · rename_i hd
      simp only [Option.bind_eq_some_iff, Option.map_eq_some_iff] at hc
      obtain ⟨n, hn, p, hp, q, hq, rfl⟩ := hc
      exact store_sound hE nm ho hf hop hd hn hp hq hs hk
    · simp at hc
  · rename_i s x f hop
    split at hc
    · rename_i fs hu
      split at hc
      · rename_i fd hfd
        simp only [Option.bind_eq_some_iff, Option.map_eq_some_iff] at hc
        obtain ⟨n, hn, p, hp, rfl⟩ := hc
        exact faddr_sound hE nm ho hf hop hu hfd hn hp hs hk
      · simp at hc
    · simp at hc
  · rename_i t x i hop
    split at hc
    · rename_i e hu
      simp only [Option.bind_eq_some_iff, Option.map_eq_some_iff] at hc
      obtain ⟨n, hn, p, hp, q, hq, rfl⟩ := hc
      exact iaddrS_sound hE nm ho hf hop hu hn hp hq hs hk
    · rename_i len e hu
      simp only [Option.bind_eq_some_iff, Option.map_eq_some_iff] at hc
      obtain ⟨n, hn, p, hp, q, hq, rfl⟩ := hc
      exact iaddrA_sound hE nm ho hf hop hu hn hp hq hs hk
    · simp at hc
  · rename_i t x f hop
    split at hc
    · rename_i fs hu
      split at hc
      · rename_i fd hfd
        simp only [Option.bind_eq_some_iff, Option.map_eq_some_iff] at hc
        obtain ⟨n, hn, p, hp, rfl⟩ := hc
        exact field_sound hE nm ho hf hop hu hfd hn hp hs hk
      · simp at hc
    · simp at hc
  · rename_i t x i hop
    split at hc
    · rename_i hu
      simp only [Option.bind_eq_some_iff, Option.map_eq_some_iff] at hc
      obtain ⟨p, hp, q, hq, rfl⟩ := hc
      exact indexStr_sound hE nm ho hf hop hu hp hq hs hk
    · simp at hc
  · rename_i t x lo hi hop
    split at hc
    · rename_i hu
      simp only [Option.bind_eq_some_iff, Option.map_eq_some_iff] at hc
      obtain ⟨p, hp, pl, hl, ph, hh, rfl⟩ := hc
      exact sliceS_sound hE nm ho hf hop hu hp hl hh hs hk
    · rename_i e hu
      simp only [Option.bind_eq_some_iff, Option.map_eq_some_iff] at hc
      obtain ⟨n, hn, p, hp, pl, hl, ph, hh, rfl⟩ := hc
      exact sliceL_sound hE nm ho hf hop hu hn hp hl hh hs hk
    · rename_i n e hu
      split at hc
      · have hn : sizeT E.P e = some 1 := by assumption
        simp only [Option.map_eq_some_iff] at hc
        obtain ⟨p, hp, rfl⟩ := hc
        exact sliceLoc_sound hE nm ho hf hop hu hn hp hs hk
      · simp at hc
    · simp at hc
  · rename_i op t x y t' hop
    split at hc
    · rename_i hop2
      split at hc
      · rename_i agg ks ht
        simp only [Option.bind_eq_some_iff, Option.map_eq_some_iff] at hc
        obtain ⟨p, hp, q, hq, rfl⟩ := hc
        exact eq_sound hE rfl nm ho hf hop hop2 ht hp hq hs hk
      · simp only [Option.bind_eq_some_iff, Option.map_eq_some_iff] at hc
        obtain ⟨p, hp, q, hq, rfl⟩ := hc
        exact bin_sound hE nm ho hf hop hp hq hs hk
      · simp at hc
    · simp only [Option.bind_eq_some_iff, Option.map_eq_some_iff] at hc
      obtain ⟨p, hp, q, hq, rfl⟩ := hc
      exact bin_sound hE nm ho hf hop hp hq hs hk
  · rename_i op t x hop
    simp only [Option.map_eq_some_iff] at hc
    obtain ⟨p, hp, rfl⟩ := hc
    exact un_sound hE nm ho hf hop hp hs hk
  · rename_i s t x hop
    split at hc
    · rename_i k' k hu hu'
      simp only [Option.map_eq_some_iff] at hc
      obtain ⟨p, hp, rfl⟩ := hc
      exact convInt_sound hE nm ho hf hop hu hu' hp hs hk
    · rename_i hu hu'
      simp only [Option.map_eq_some_iff] at hc
      obtain ⟨p, hp, rfl⟩ := hc
      exact movs_sound hE nm ho hf hop hu hu' hp hs hk
    · rename_i e hu hu'
      split at hc
      · rename_i he
        split at hc
        · simp at hc
        · rename_i hnd
          have hnd' : cDst vs o.dst ≠ .n := by intro e; rw [e] at hnd; simp [isN] at hnd
          simp only [Option.map_eq_some_iff] at hc
          obtain ⟨p, hp, rfl⟩ := hc
          exact s2b_sound hE nm ho hf hop hnd' hu hu' he hp hs hk
      · simp at hc
    · rename_i e hu hu'
      split at hc
      · rename_i he
        simp only [Option.map_eq_some_iff] at hc
        obtain ⟨p, hp, rfl⟩ := hc
        exact b2s_sound hE nm ho hf hop hu he hu' hp hs hk
      · simp at hc
    · simp at hc
  · rename_i x i hop
    simp only [Option.map_eq_some_iff] at hc
    obtain ⟨p, hp, rfl⟩ := hc
    exact extract_sound hE nm ho hf hop hp hs hk
  · rename_i b args ts hop
    split at hc
    · simp at hc
    · rename_i hnd
      have hnd' : cDst vs o.dst ≠ .n := by intro e; rw [e] at hnd; simp [isN] at hnd
      obtain ⟨args⟩ := args
      obtain ⟨ts⟩ := ts
      unfold cBuiltin at hc
      split at hc
      · rename_i x t rest hb hargs hts
        simp only at hargs hts
        subst hargs hts
        split at hc
        · rename_i hu
          simp only [Option.map_eq_some_iff] at hc
          obtain ⟨p, hp, rfl⟩ := hc
          exact len_sound hE nm ho hf hop rfl (str := true) (by simpa using hu) hp hs hk
        · rename_i e hu
          simp only [Option.map_eq_some_iff] at hc
          obtain ⟨p, hp, rfl⟩ := hc
          exact len_sound hE nm ho hf hop rfl (str := false) (by simpa using ⟨e, hu⟩) hp hs hk
        · simp at hc
      · simp only [Option.map_eq_some_iff] at hc
        obtain ⟨p, hp, rfl⟩ := hc
        exact mm_sound (mx := false) hE nm ho hf hop hp hs hk
      · simp only [Option.map_eq_some_iff] at hc
        obtain ⟨p, hp, rfl⟩ := hc
        exact mm_sound (mx := true) hE nm ho hf hop hp hs hk
      · rename_i s x t1 t2 hb hargs hts
        simp only at hargs hts
        subst hargs hts
        split at hc
        · rename_i e e' hu hu'
          split at hc
          · rename_i size z hn hz
            simp only [Option.bind_eq_some_iff, Option.map_eq_some_iff] at hc
            obtain ⟨p, hp, q, hq, rfl⟩ := hc
            exact append_sound hE nm ho hf hop hnd' hu hu' hn hz hp hq hs hk
          · simp at hc
        · rename_i e hu hu'
          split at hc
          · rename_i z he hn hz hb1
            simp only [Option.bind_eq_some_iff, Option.map_eq_some_iff] at hc
            obtain ⟨p, hp, q, hq, rfl⟩ := hc
            exact appstr_sound hE nm ho hf hop hnd' hu hu' hn hz hb1 hp hq hs hk
          · simp at hc
        · simp at hc
      · simp at hc
  · rename_i f args ts hop
    simp only [Option.bind_eq_some_iff, Option.map_eq_some_iff] at hc
    obtain ⟨k, hk', ps, hps, rfl⟩ := hc
    exact pcall_sound hF hE nm ho hf hcf hcL hop hk' hps hs hk
  · rename_i t args ts hop
    simp only [Option.bind_eq_some_iff, Option.map_eq_some_iff] at hc
    obtain ⟨p, hp, ps, hps, rfl⟩ := hc
    exact callv_sound hF hE nm ho hf hcf hcL hop hp hps hs hk
  · simp at hc
end
end PI
set_option linter.unusedSimpArgs false
set_option linter.unusedVariables false
namespace PI
open Go Go.RowKit
section
variable {E : Env} {N : Nm} {w : World} {G : GS} {st : St} {a : Act} {vs : List Tmp} {P : Program} {ops : Array Oper}
variable {o : Oper} {j : Nat} {Q : Exit → Act → World → Prop} {st1 : St}
abbrev Next1 (N : Nm) (w : World) (G : GS) (a : Act) (st1 : St) (vs : List Tmp) (ops : List Oper) (K : Act → World → Prop) : Prop :=
  ∀ a' w' G', FI N w' G' st1 a' vs (lmap vs ops) → Ext w G w' G' → a'.tmps.size = a.tmps.size → K a' w'
theorem step1_sound {L : Nat → Option PFunc} (hF : FnsOK N P L) (hE : EnvOk E N) (hP : E.P = P) (nm : Names vs (lmap vs ops.toList)) (ho : ops[j]? = some o) (hf : FI N w G st a vs (lmap vs ops.toList)) {cf : CallF} (hcf : CallOK N P cf)
    (hcL : ∀ k args h r, cf k args h = some r → ∃ f, L k = some f) {po : PO} (hc : cOper E vs ops.toList o = some po) (hs : step1 cf j po st = some st1) {K : Act → World → Prop} (hk : Next1 N w G a st1 vs ops.toList K) : wpOp P ops Q j K a w := by
  have ho' : ops.toList[j]? = some o := by simpa using ho
  simp only [cOper, Option.map_eq_some_iff] at hc
  obtain ⟨g, hg, rfl⟩ := hc
  generalize hpd : (cOp E vs ops.toList o).getD stuckOp = p at hs
  unfold wpOp
  simp only [ho]
  have run : ∀ {st1}, (opv cf p st).map (fun r => put r.2 j (cDst vs o.dst) r.1) = some st1 → Next1 N w G a st1 vs ops.toList K → o.wp P a w K Q := by
    intro st1 h hk
    simp only [Option.map_eq_some_iff] at h
    obtain ⟨⟨u, st2⟩, h1, rfl⟩ := h
    cases hcp : cOp E vs ops.toList o with
    | none =>
      rw [hcp] at hpd
      simp only [Option.getD_none] at hpd
      subst hpd
      simp [stuckOp, opv, rd, raw, cp] at h1
    | some p' =>
      rw [hcp] at hpd
      simp only [Option.getD_some] at hpd
      subst hpd
      exact op_sound hF hE hP nm ho' hf hcf hcL hcp h1 hk
  unfold cGuard at hg
  split at hg
  · rename_i hgn
    simp at hg; subst hg
    simp only [step1] at hs
    rw [if_pos (by simp [Region.wanted, hgn])]
    exact .inl (run hs hk)
  · rename_i jj want hgs
    split at hg
    · rename_i og hog
      split at hg
      · rename_i t ht
        simp only [Option.map_eq_some_iff] at hg
        obtain ⟨px, hpx, rfl⟩ := hg
        simp only [step1] at hs
        split at hs
        · rename_i b hb
          have hev := (rd_sound hE hpx hf hb).1
          have hev' : a.eval (.tmp t) = .bool b := by generalize a.eval (.tmp t) = z at hev; cases hev; rfl
          have hy : yielded ops a.tmps jj = some b := by
            have h1 : ops[jj]? = some og := by simpa using hog
            have h2 : a.tmps[t]? = some (.bool b) := by
              simp only [Act.eval, Array.getD_eq_getD_getElem?] at hev'
              cases h : a.tmps[t]? with
              | none => rw [h] at hev'; simp [undef] at hev'
              | some z => rw [h] at hev'; simpa using hev'
            simp [yielded, h1, ht, h2]
          have hw : Region.wanted o (yielded ops a.tmps) = (b == want) := by
            simp [Region.wanted, hgs, hy]
          rw [hw]
          split at hs
          · rename_i hbw
            rw [if_pos (by simpa using hbw)]
            exact .inl (run hs hk)
          · rename_i hbw
            rw [if_neg (by simpa using hbw)]
            simp at hs; subst hs
            exact hk _ _ G (hf.put nm (cDst_ok ho') (.tuple #[] [] rfl (by intro i c p h _; simp at h))) (Ext.refl _ _) (put_size _ _ _)
        · rename_i hb
          have hev := (rd_sound hE hpx hf hb).1
          have hev' : a.eval (.tmp t) = .tuple #[] := by
            generalize a.eval (.tmp t) = z at hev
            cases hev with
            | tuple cs _ hlen _ => simp at hlen; rw [hlen]
          have hy : yielded ops a.tmps jj = none := by
            have h1 : ops[jj]? = some og := by simpa using hog
            simp only [Act.eval, Array.getD_eq_getD_getElem?] at hev'
            cases h : a.tmps[t]? with
            | none => simp [yielded, h1, ht, h]
            | some z => rw [h] at hev'; simp at hev'; subst hev'; simp [yielded, h1, ht, h]
          have hw : Region.wanted o (yielded ops a.tmps) = false := by
            simp [Region.wanted, hgs, hy]
          rw [hw]
          simp at hs; subst hs
          exact hk _ _ G (hf.put nm (cDst_ok ho') (.tuple #[] [] rfl (by intro i c p h _; simp at h))) (Ext.refl _ _) (put_size _ _ _)
        · simp at hs
      · simp at hg
    · simp at hg
theorem Next1.trans {w' : World} {G' : GS} {a' : Act} {K : Act → World → Prop} {vs' : List Tmp} {ops' : List Oper} (h : Next1 N w G a st1 vs' ops' K) (e : Ext w G w' G') (hs : a'.tmps.size = a.tmps.size) : Next1 N w' G' a' st1 vs' ops' K :=
  fun a2 w2 G2 h1 h2 h3 => h a2 w2 G2 h1 (e.trans h2) (h3.trans hs)
theorem cOpers_get : ∀ {os : List Oper} {pos : List PO} {ops : List Oper}, cOpers E vs ops os = some pos → os.length = pos.length ∧ ∀ (i : Nat) (o : Oper), os[i]? = some o → ∃ p, pos[i]? = some p ∧ cOper E vs ops o = some p
  | [], pos, ops, h => by simp [cOpers] at h; subst h; simp
  | o :: os, pos, ops, h => by
    simp only [cOpers, Option.bind_eq_some_iff, Option.map_eq_some_iff] at h
    obtain ⟨p, hp, ps, hps, rfl⟩ := h
    obtain ⟨h1, h2⟩ := cOpers_get hps
    refine ⟨by simp [h1], ?_⟩
    intro i o' ho'
    cases i with
    | zero => simp at ho'; subst ho'; exact ⟨p, rfl, hp⟩
    | succ i => simpa using h2 i o' (by simpa using ho')
def execL (cf : CallF) (pos : List PO) : List Nat → St → Option St
  | [], st => some st
  | i :: l, st =>
    match pos[i]? with
    | some p => (step1 cf i p st).bind (execL cf pos l)
    | none => none
theorem execFrom_L {cf : CallF} {all : List PO} : ∀ {pos : List PO} {j : Nat} {st : St}, all.drop j = pos → execFrom cf j pos st = execL cf all (List.range' j pos.length) st
  | [], j, st, _ => by simp [execFrom, execL]
  | p :: pos, j, st, h => by
    have h1 : all[j]? = some p := by
      have := congrArg List.head? h; simpa [List.head?_drop] using this
    have h2 : all.drop (j + 1) = pos := by have := congrArg List.tail h; simpa [List.tail_drop] using this
    simp only [execFrom, List.length_cons, List.range'_succ, execL, h1]
    congr 1
    funext st'
    exact execFrom_L h2
theorem opsL_sound {L : Nat → Option PFunc} (hF : FnsOK N P L) (hE : EnvOk E N) (hP : E.P = P) (nm : Names vs (lmap vs ops.toList)) {cf : CallF} (hcf : CallOK N P cf)
    (hcL : ∀ k args h r, cf k args h = some r → ∃ f, L k = some f) {pos : List PO} (hc : cOpers E vs ops.toList ops.toList = some pos) :
    ∀ {l : List Nat} {st st' : St} {w : World} {G : GS} {a : Act}, execL cf pos l st = some st' → FI N w G st a vs (lmap vs ops.toList) → Next1 N w G a st' vs ops.toList (Q .normal) → wpOps P ops Q l a w
  | [], st, st', w, G, a, h, hf, hk => by
    simp [execL] at h; subst h
    exact hk _ _ G hf (Ext.refl _ _) rfl
  | i :: l, st, st', w, G, a, h, hf, hk => by
    simp only [execL] at h
    split at h
    · rename_i p hp
      simp only [Option.bind_eq_some_iff] at h
      obtain ⟨st1, h1, h2⟩ := h
      have hlt : i < ops.toList.length := by rw [(cOpers_get hc).1]; exact (List.getElem?_eq_some_iff.1 hp).1
      obtain ⟨p', hp', hcp⟩ := (cOpers_get hc).2 i ops.toList[i] (List.getElem?_eq_getElem hlt)
      have : p' = p := by rw [hp] at hp'; simpa using hp'.symm
      subst this
      rw [wpOps_cons]
      refine step1_sound hF hE hP nm (o := ops.toList[i]) (by simp) hf hcf hcL hcp h1 ?_
      intro a' w' G' hf' he hs
      exact opsL_sound hF hE hP nm hcf hcL hc h2 hf' (hk.trans he hs)
    · simp at h
end
theorem idxIn_of {t : Tmp} {vs : List Tmp} {i : Nat} (h : vs[i]? = some t) : ∀ n, (idxIn t vs n).isSome = true := by
  induction vs generalizing i with
  | nil => simp at h
  | cons x xs ih =>
    intro n
    simp only [idxIn]
    split
    · rfl
    · rename_i hne
      cases i with
      | zero => simp at h; exact absurd h hne
      | succ i => exact ih (by simpa using h) (n + 1)
theorem once_spec {vs : List Tmp} : ∀ {ops : List Oper}, onceIn vs ops = true → ∀ (j j' : Nat) (o o' : Oper) (t : Tmp), ops[j]? = some o → ops[j']? = some o' → o.dst = some t → o'.dst = some t → (idxIn t vs 0).isSome = false → j = j'
  | [], _, j, _, _, _, _, h, _, _, _, _ => by simp at h
  | x :: xs, h, j, j', o, o', t, h1, h2, h3, h4, h5 => by
    simp only [onceIn, Bool.and_eq_true] at h
    obtain ⟨ha, hb⟩ := h
    have key : ∀ (m : Nat) (p : Oper), xs[m]? = some p → x.dst = some t → p.dst ≠ some t := by
      intro m p hm hx
      rw [hx] at ha
      simp only [h5, Bool.false_or, List.all_eq_true, bne_iff_ne, ne_eq] at ha
      exact ha p (List.mem_of_getElem? hm)
    cases j with
    | zero =>
      simp at h1; subst h1
      cases j' with
      | zero => rfl
      | succ m => exact absurd h4 (key m o' (by simpa using h2) h3)
    | succ m =>
      cases j' with
      | zero => simp at h2; subst h2; exact absurd h3 (key m o (by simpa using h1) h4)
      | succ m' => rw [once_spec hb m m' o o' t (by simpa using h1) (by simpa using h2) h3 h4 h5]
theorem names_ok {vs : List Tmp} {ops : List Oper} (hn : vs.Nodup) (ho : onceIn vs ops = true) : Names vs (lmap vs ops) := by
  have sp : ∀ j t, lmap vs ops j = some t → ∃ o, ops[j]? = some o ∧ o.dst = some t ∧ (idxIn t vs 0).isSome = false := by
    intro j t h
    unfold lmap at h
    split at h
    · rename_i o ho
      split at h
      · rename_i t' ht'
        split at h
        · simp at h
        · rename_i hi
          simp at h; subst h
          exact ⟨o, ho, ht', by simpa using hi⟩
      · simp at h
    · simp at h
  refine ⟨?_, ?_, ?_⟩
  · intro i i' t h1 h2
    obtain ⟨hi, e1⟩ := List.getElem?_eq_some_iff.1 h1
    obtain ⟨hi', e2⟩ := List.getElem?_eq_some_iff.1 h2
    exact (List.getElem_inj hn).1 (e1.trans e2.symm)
  · intro j t i h1 h2
    obtain ⟨o, _, _, h3⟩ := sp j t h1
    have := idxIn_of h2 0
    rw [h3] at this; simp at this
  · intro j j' t h1 h2
    obtain ⟨o, a1, a2, a3⟩ := sp j t h1
    obtain ⟨o', b1, b2, _⟩ := sp j' t h2
    exact once_spec ho j j' o o' t a1 b1 a2 b2 a3
end PI
set_option linter.unusedSimpArgs false
set_option linter.unusedVariables false
namespace PI
open Go Go.RowKit
abbrev SimG (p : PO) (st st' : St) : Prop := Sim p.op (readsG p) st st'
theorem reads_sub (p : PO) : ∀ x ∈ readsOf p.op, x ∈ readsG p := fun x hx => by simp only [readsG, List.mem_append]; exact .inr hx
theorem takes_sub (o : POp) : ∀ x ∈ takesOf o, x ∈ readsOf o := by
  intro x hx
  cases o with
  | h o => cases o <;> simp [takesOf, readsOf, readsOfH] at hx ⊢; exact .inl hx
  | take y => simpa [takesOf, readsOf] using hx
  | append a b c d => simp [takesOf, readsOf] at hx ⊢; exact .inl hx
  | appstr a b => simp [takesOf, readsOf] at hx ⊢; exact .inl hx
  | _ => simp [takesOf] at hx
theorem step1_dm {cf : CallF} {j : Nat} {p : PO} {st st1 : St} (hm : memOf p.op ≠ 2) (h : step1 cf j p st = some st1) :
    ∃ (d : Dm) (u : PV), st1 = put (d.app st) j p.dst u ∧ Fits p.op d ∧ ∀ st', SimG p st st' → step1 cf j p st' = some (put (d.app st') j p.dst u) := by
  have run : (opv cf p.op st).map (fun r => put r.2 j p.dst r.1) = some st1 → ∃ (d : Dm) (u : PV), st1 = put (d.app st) j p.dst u ∧ Fits p.op d ∧ ∀ st', SimG p st st' → (opv cf p.op st').map (fun r => put r.2 j p.dst r.1) = some (put (d.app st') j p.dst u) := by
    intro h
    simp only [Option.map_eq_some_iff] at h
    obtain ⟨⟨u, st2⟩, h1, rfl⟩ := h
    obtain ⟨d, e, hf, hs⟩ := opv_dm (rs := readsG p) hm (reads_sub p) h1
    exact ⟨d, u, by rw [e], hf, fun st' hsim => by rw [hs st' hsim]; rfl⟩
  unfold step1 at h
  split at h
  · rename_i hg
    obtain ⟨d, u, h1, h2, h3⟩ := run h
    exact ⟨d, u, h1, h2, fun st' hs => by simp only [step1, hg]; exact h3 st' hs⟩
  · rename_i x want hg
    have hx : x ∈ readsG p := by simp [readsG, hg]
    split at h
    · rename_i b hb
      split at h
      · rename_i hbw
        obtain ⟨d, u, h1, h2, h3⟩ := run h
        refine ⟨d, u, h1, h2, fun st' hs => ?_⟩
        have hb' : rd st' x = some (.bool b) := by rw [← hs.rd hx]; exact hb
        simp only [step1, hg, hb', if_pos hbw]
        exact h3 st' hs
      · rename_i hbw
        simp only [Option.some.injEq] at h; subst h
        refine ⟨.none, .tuple [], rfl, trivial, fun st' hs => ?_⟩
        have hb' : rd st' x = some (.bool b) := by rw [← hs.rd hx]; exact hb
        simp only [step1, hg, hb', if_neg hbw]
        rfl
    · rename_i hb
      simp only [Option.some.injEq] at h; subst h
      refine ⟨.none, .tuple [], rfl, trivial, fun st' hs => ?_⟩
      have hb' : rd st' x = some (.tuple []) := by rw [← hs.rd hx]; exact hb
      simp only [step1, hg, hb']
      rfl
    · simp at h
theorem raw_put {st : St} {j : Nat} {d : PD} {u : PV} {x : PX} (h : isX d j x = false) : raw (put st j d u) x = raw st x := by
  cases d <;> cases x <;> simp [isX, sameX] at h <;> simp only [put, raw] <;> first | rfl | (rw [List.getElem?_set]; simp [h])
theorem vw_dem (v : PV) : vw (dem v) = vw v := by cases v <;> rfl
theorem vw_demCell (off : Nat) (v : PV) : vw (demCell off v) = vw v := by cases v <;> rfl
theorem raw_shut1 {y x : PX} (st : St) (h : sameX y x = false) : raw (shut1 y st) x = raw st x := by
  cases y with
  | v i =>
    cases x with
    | v k => simp [sameX] at h; simp [shut1, raw, List.getElem?_modify, h]
    | _ => rfl
  | _ => cases x <;> rfl
theorem raw_shuts : ∀ {xs : List PX} {x : PX} (st : St), (∀ y ∈ xs, sameX y x = false) → raw (shuts xs st) x = raw st x
  | [], _, _, _ => rfl
  | y :: xs, x, st, h => by
    simp only [shuts]
    rw [raw_shuts (xs := xs) _ (fun z hz => h z (List.mem_cons_of_mem _ hz)), raw_shut1 st (h y (List.mem_cons_self ..))]
theorem shuts_heap : ∀ (xs : List PX) (st : St), (shuts xs st).heap = st.heap
  | [], _ => rfl
  | x :: xs, st => by simp only [shuts]; rw [shuts_heap xs]; cases x <;> rfl
theorem shuts_setHeap : ∀ (xs : List PX) (st : St) (h : List PObj), shuts xs { st with heap := h } = { shuts xs st with heap := h }
  | [], _, _ => rfl
  | x :: xs, st, h => by
    simp only [shuts]
    rw [← shuts_setHeap xs]
    cases x <;> rfl
theorem raw_app_vw (d : Dm) (st : St) (x : PX) (hsh : ∀ xs, d = .shut xs → ∀ y ∈ xs, sameX y x = false) : (raw (d.app st) x).map vw = (raw st x).map vw := by
  cases d with
  | none => rfl
  | heap h => cases x <;> rfl
  | shut xs => simp only [Dm.app]; rw [raw_shuts st (hsh xs rfl)]
  | src y =>
    cases y with
    | c p => rfl
    | v i =>
      cases x with
      | v k =>
        simp only [Dm.app, raw, List.getElem?_modify]
        cases st.vars[k]? <;> simp
        split <;> simp [vw_dem]
      | _ => rfl
    | l i =>
      cases x with
      | l k =>
        simp only [Dm.app, raw, List.getElem?_modify]
        cases st.locs[k]? <;> simp
        split <;> simp [vw_dem]
      | _ => rfl
  | cell s off =>
    cases x with
    | v k =>
      simp only [Dm.app, raw, List.getElem?_modify]
      cases st.vars[k]? <;> simp
      split <;> simp [vw_demCell]
    | _ => rfl
theorem raw_app_own {o : POp} {d : Dm} (hd : Fits o d) (st : St) (x : PX) (hx : ∀ y ∈ takesOf o, sameX y x = false) (hsh : ∀ xs, d = .shut xs → ∀ y ∈ xs, sameX y x = false) (es : List PV) : raw (d.app st) x = some (.list true es) ↔ raw st x = some (.list true es) := by
  cases d with
  | none => exact Iff.rfl
  | heap h => cases x <;> exact Iff.rfl
  | shut xs => simp only [Dm.app]; rw [raw_shuts st (hsh xs rfl)]
  | src y =>
    have hy := hx y hd
    cases y with
    | c p => exact Iff.rfl
    | v i =>
      cases x with
      | v k => simp [sameX] at hy; simp [Dm.app, raw, List.getElem?_modify, hy]
      | _ => exact Iff.rfl
    | l i =>
      cases x with
      | l k => simp [sameX] at hy; simp [Dm.app, raw, List.getElem?_modify, hy]
      | _ => exact Iff.rfl
  | cell s off =>
    cases x with
    | v k =>
      simp only [Dm.app, raw, List.getElem?_modify]
      cases hv : st.vars[k]? with
      | none => simp
      | some v =>
        simp only [Option.map_some, Option.some.injEq]
        split
        · cases v <;> simp [demCell]
        · simp
    | _ => exact Iff.rfl
theorem dem_dem (v : PV) : dem (dem v) = dem v := by cases v <;> rfl
theorem map_dem_modify (cs : List PV) (off : Nat) : (cs.modify off dem).map dem = cs.map dem := by
  apply List.ext_getElem?
  intro k
  simp only [List.getElem?_map, List.getElem?_modify]
  cases cs[k]? <;> simp
  split <;> simp [dem_dem]
theorem app_loc {o : POp} {d : Dm} (hd : Fits o d) (st : St) (exact : Bool) (he : exact = true → memOf o ≠ 3) (h4 : memOf o ≠ 4) : LocEq exact st (d.app st) ∧ LocEq exact (d.app st) st := by
  have same : ∀ (st st' : St), (∀ s : Nat, ∀ g cs, st.vars[s]? = some (.loc g cs) → st'.vars[s]? = some (.loc g cs)) → LocEq exact st st' := fun st st' h s g cs hs => ⟨cs, h s g cs hs, rfl, fun _ => rfl⟩
  cases d with
  | none => exact ⟨same _ _ (fun _ _ _ h => h), same _ _ (fun _ _ _ h => h)⟩
  | heap h => exact ⟨same _ _ (fun _ _ _ h => h), same _ _ (fun _ _ _ h => h)⟩
  | shut xs => exact absurd hd.1 h4
  | src y =>
    cases y with
    | c p => exact ⟨same _ _ (fun _ _ _ h => h), same _ _ (fun _ _ _ h => h)⟩
    | l i => exact ⟨same _ _ (fun _ _ _ h => h), same _ _ (fun _ _ _ h => h)⟩
    | v i =>
      refine ⟨same _ _ ?_, same _ _ ?_⟩
      · intro s g cs h
        simp only [Dm.app, List.getElem?_modify, h, Option.map_some]
        split <;> rfl
      · intro s g cs h
        simp only [Dm.app, List.getElem?_modify] at h
        cases hv : st.vars[s]? with
        | none => simp [hv] at h
        | some v =>
          rw [hv] at h
          simp only [Option.map_eq_map, Option.map_some, Option.some.injEq] at h
          split at h
          · have : v = .loc g cs := by cases v <;> simp_all [dem]
            rw [this]
          · rw [h]
  | cell s off =>
    have h3 : memOf o = 3 := hd
    have hne : exact = false := by
      cases exact with
      | false => rfl
      | true => exact absurd h3 (he rfl)
    subst hne
    refine ⟨?_, ?_⟩
    · intro k g cs h
      simp only [Dm.app, List.getElem?_modify, h, Option.map_some]
      split
      · exact ⟨cs.modify off dem, rfl, map_dem_modify cs off, by simp⟩
      · exact ⟨cs, rfl, rfl, by simp⟩
    · intro k g cs h
      simp only [Dm.app, List.getElem?_modify] at h
      cases hv : st.vars[k]? with
      | none => simp [hv] at h
      | some v =>
        rw [hv] at h
        simp only [Option.map_eq_map, Option.map_some, Option.some.injEq] at h
        split at h
        · have : ∃ cs0, v = .loc g cs0 ∧ cs0.modify off dem = cs := by cases v <;> simp_all [demCell]
          obtain ⟨cs0, rfl, rfl⟩ := this
          exact ⟨_, rfl, (map_dem_modify _ off).symm, by simp⟩
        · exact ⟨cs, by rw [h], rfl, by simp⟩
structure Comm (jp : Nat) (p : PO) (jq : Nat) (q : PO) : Prop where
  mp : memOf p.op ≠ 2
  mq : memOf q.op ≠ 2
  mm : ¬ (memOf p.op = 3 ∧ memOf q.op = 3)
  pq : ∀ x ∈ readsG q, isX p.dst jp x = false
  pv : isV p.dst = true → memOf q.op = 0
  qp : ∀ x ∈ readsG p, isX q.dst jq x = false
  qv : isV q.dst = true → memOf p.op = 0
  dd : sameD p.dst q.dst = false
  tt : ∀ x ∈ takesOf p.op, ∀ y ∈ takesOf q.op, sameX x y = false
  m4 : memOf p.op = 4 → memOf q.op = 0
  n4 : memOf q.op = 4 → memOf p.op = 0
  h2 : heapOf p.op = 2 → heapOf q.op = 0
  k2 : heapOf q.op = 2 → heapOf p.op = 0
  sp : ∀ x ∈ shutsOf p.op, ∀ y ∈ readsG q, sameX x y = false
  sq : ∀ x ∈ shutsOf q.op, ∀ y ∈ readsG p, sameX x y = false
theorem sameX_symm (x y : PX) : sameX x y = sameX y x := by cases x <;> cases y <;> simp [sameX] <;> exact Bool.beq_comm
theorem sameD_symm (x y : PD) : sameD x y = sameD y x := by cases x <;> cases y <;> simp [sameD] <;> exact Bool.beq_comm
theorem comm_spec {jp jq : Nat} {p q : PO} (h : comm jp p jq q = true) : Comm jp p jq q := by
  simp only [comm, apart, Bool.and_eq_true, Bool.not_eq_true', bne_iff_ne, ne_eq, List.all_eq_true, Bool.or_eq_true, beq_iff_eq, Bool.and_eq_false_iff, beq_eq_false_iff_ne, bne_eq_false_iff_eq, List.any_eq_false] at h
  obtain ⟨⟨⟨⟨⟨⟨⟨⟨⟨⟨⟨⟨h1, h2⟩, h3⟩, a1⟩, a2⟩, a3⟩, a4⟩, a5⟩, a6⟩, h4, h5⟩, h6, h7⟩, h8⟩, h9⟩ := h
  have neg : ∀ {a b : Nat} {c : Nat}, (¬ a = c ∨ b = 0) → a = c → b = 0 := by
    intro a b c h e
    rcases h with h | h
    · exact absurd e h
    · exact h
  refine ⟨h1, h2, ?_, h4, ?_, h6, ?_, h8, ?_, neg a1, neg a2, neg a3, neg a4, ?_, ?_⟩
  · rintro ⟨a, b⟩; rcases h3 with h3 | h3
    · exact h3 a
    · exact h3 b
  · intro hv; rcases h5 with h5 | h5
    · rw [hv] at h5; simp at h5
    · exact h5
  · intro hv; rcases h7 with h7 | h7
    · rw [hv] at h7; simp at h7
    · exact h7
  · intro x hx y hy
    simpa using h9 x hx y hy
  · intro x hx y hy
    simpa using a5 x hx y hy
  · intro x hx y hy
    simpa using a6 x hx y hy
theorem Comm.symm {jp jq : Nat} {p q : PO} (h : Comm jp p jq q) : Comm jq q jp p :=
  ⟨h.mq, h.mp, fun ⟨a, b⟩ => h.mm ⟨b, a⟩, h.qp, h.qv, h.pq, h.pv, by rw [sameD_symm]; exact h.dd, fun x hx y hy => by rw [sameX_symm]; exact h.tt y hy x hx, h.n4, h.m4, h.k2, h.h2, h.sq, h.sp⟩
theorem sim_change {jp jq : Nat} {p q : PO} (hc : Comm jp p jq q) {d : Dm} (hd : Fits p.op d) (st : St) (u : PV) : SimG q st (put (d.app st) jp p.dst u) ∧ SimG q (put (d.app st) jp p.dst u) st := by
  have hsh : ∀ x ∈ readsG q, ∀ xs, d = .shut xs → ∀ y ∈ xs, sameX y x = false := by
    intro x hx xs e y hy
    subst e
    exact hc.sp y (hd.2 ▸ hy) x hx
  have hreads : ∀ x ∈ readsG q, (raw st x).map vw = (raw (put (d.app st) jp p.dst u) x).map vw := fun x hx => by
    rw [raw_put (hc.pq x hx), raw_app_vw d st x (hsh x hx)]
  have htakes : ∀ x ∈ takesOf q.op, ∀ es, raw st x = some (.list true es) ↔ raw (put (d.app st) jp p.dst u) x = some (.list true es) := fun x hx es => by
    rw [raw_put (hc.pq x (reads_sub q x (takes_sub _ x hx))), raw_app_own hd st x (fun y hy => hc.tt y hy x hx) (hsh x (reads_sub q x (takes_sub _ x hx)))]
  have hmem : 1 ≤ memOf q.op → LocEq (memOf q.op == 3) st (put (d.app st) jp p.dst u) ∧ LocEq (memOf q.op == 3) (put (d.app st) jp p.dst u) st := fun h1 => by
    have hv : (put (d.app st) jp p.dst u).vars = (d.app st).vars := by
      cases hd : p.dst with
      | v i => have := hc.pv (by rw [hd]; rfl); omega
      | l => rfl
      | n => rfl
    have := app_loc hd st (memOf q.op == 3) (fun he h3 => hc.mm ⟨h3, by simpa using he⟩) (fun h4 => by have := hc.m4 h4; omega)
    unfold LocEq at this ⊢
    rw [hv]
    exact this
  have hheap : 1 ≤ heapOf q.op → (put (d.app st) jp p.dst u).heap = st.heap := by
    intro h1
    have hp : (put (d.app st) jp p.dst u).heap = (d.app st).heap := by cases p.dst <;> rfl
    rw [hp]
    cases d with
    | none => rfl
    | src y => cases y <;> rfl
    | cell s off => rfl
    | heap h => have := hc.h2 hd; omega
    | shut xs => exact shuts_heap xs st
  exact ⟨⟨hreads, htakes, fun h => (hmem h).1, hheap⟩, ⟨fun x hx => (hreads x hx).symm, fun x hx es => (htakes x hx es).symm, fun h => (hmem h).2, fun h => (hheap h).symm⟩⟩
theorem modify_comm (l : List PV) (i k : Nat) (f g : PV → PV) (h : i = k → ∀ v, f (g v) = g (f v)) : (l.modify i f).modify k g = (l.modify k g).modify i f := by
  apply List.ext_getElem?
  intro m
  simp only [List.getElem?_modify, Option.map_eq_map, Option.map_map]
  cases l[m]? with
  | none => rfl
  | some v =>
    simp only [Option.map_some, Function.comp]
    by_cases h1 : i = m <;> by_cases h2 : k = m <;> simp [h1, h2]
    exact (h (by omega) v).symm
theorem dem_demCell (off : Nat) (v : PV) : dem (demCell off v) = demCell off (dem v) := by cases v <;> rfl
theorem shutV_dem (v : PV) : shutV (dem v) = dem (shutV v) := by cases v <;> rfl
theorem shutV_demCell (off : Nat) (v : PV) : shutV (demCell off v) = demCell off (shutV v) := by
  cases v <;> simp [demCell, shutV, map_dem_modify]
theorem shut1_src (x y : PX) (st : St) : shut1 x ((Dm.src y).app st) = (Dm.src y).app (shut1 x st) := by
  cases x <;> cases y <;> (try simp only [Dm.app, shut1]) <;> (try rfl)
  rw [modify_comm]; intro _ v; exact (shutV_dem v).symm
theorem shut1_cell (x : PX) (s off : Nat) (st : St) : shut1 x ((Dm.cell s off).app st) = (Dm.cell s off).app (shut1 x st) := by
  cases x <;> (try simp only [Dm.app, shut1]) <;> (try rfl)
  rw [modify_comm]; intro _ v; exact (shutV_demCell off v).symm
theorem shuts_src : ∀ (xs : List PX) (y : PX) (st : St), shuts xs ((Dm.src y).app st) = (Dm.src y).app (shuts xs st)
  | [], _, _ => rfl
  | x :: xs, y, st => by simp only [shuts]; rw [shut1_src, shuts_src xs]
theorem shuts_cell : ∀ (xs : List PX) (s off : Nat) (st : St), shuts xs ((Dm.cell s off).app st) = (Dm.cell s off).app (shuts xs st)
  | [], _, _, _ => rfl
  | x :: xs, s, off, st => by simp only [shuts]; rw [shut1_cell, shuts_cell xs]
theorem app_app {o o' : POp} {d d' : Dm} (hd : Fits o d) (hd' : Fits o' d') (hm : ¬ (memOf o = 3 ∧ memOf o' = 3)) (h4 : memOf o = 4 → memOf o' = 0) (h2 : heapOf o = 2 → heapOf o' = 0) (st : St) : d.app (d'.app st) = d'.app (d.app st) := by
  cases d with
  | none => rfl
  | heap h =>
    cases d' with
    | none => rfl
    | src y => cases y <;> rfl
    | cell s off => rfl
    | heap h' =>
      have a := h2 hd
      have b : heapOf o' = 2 := hd'
      omega
    | shut xs => exact (shuts_setHeap xs st h).symm
  | shut xs =>
    cases d' with
    | none => rfl
    | src y => exact shuts_src xs y st
    | cell s off => exact shuts_cell xs s off st
    | heap h' => exact shuts_setHeap xs st h'
    | shut ys =>
      have a := h4 hd.1
      have b : memOf o' = 4 := hd'.1
      omega
  | src y =>
    cases d' with
    | heap h' => cases y <;> rfl
    | shut xs => exact (shuts_src xs y st).symm
    | none => rfl
    | src y' =>
      cases y <;> cases y' <;> (try simp only [Dm.app]) <;> (try rfl) <;> (rw [modify_comm]; intro _ v; rfl)
    | cell s off =>
      cases y <;> (try simp only [Dm.app]) <;> (try rfl)
      rw [modify_comm]; intro _ v; exact (dem_demCell off v).symm
  | cell s off =>
    cases d' with
    | heap h' => rfl
    | shut xs => exact (shuts_cell xs s off st).symm
    | none => rfl
    | src y' =>
      cases y' <;> (try simp only [Dm.app]) <;> (try rfl)
      rw [modify_comm]; intro _ v; exact dem_demCell off v
    | cell s' off' => exact absurd ⟨hd, hd'⟩ hm
theorem set_modify (l : List PV) (i k : Nat) (f : PV → PV) (u : PV) (h : i ≠ k) : (l.set i u).modify k f = (l.modify k f).set i u := by
  apply List.ext_getElem?
  intro m
  simp only [List.getElem?_modify, List.getElem?_set, List.length_modify]
  by_cases h1 : i = m
  · subst h1
    have : ¬ k = i := fun e => h e.symm
    simp [this]
  · simp [h1]
theorem shut1_put {x : PX} {j : Nat} {d : PD} (st : St) (u : PV) (h : isX d j x = false) : shut1 x (put st j d u) = put (shut1 x st) j d u := by
  cases x with
  | v k =>
    cases d with
    | v i => simp [isX, sameX] at h; simp only [shut1, put]; rw [set_modify _ _ _ _ _ h]
    | _ => rfl
  | _ => cases d <;> rfl
theorem shuts_put : ∀ {xs : List PX} {j : Nat} {d : PD} (st : St) (u : PV), (∀ x ∈ xs, isX d j x = false) → shuts xs (put st j d u) = put (shuts xs st) j d u
  | [], _, _, _, _, _ => rfl
  | x :: xs, j, d, st, u, h => by
    simp only [shuts]
    rw [shut1_put st u (h x (List.mem_cons_self ..)), shuts_put _ _ (fun y hy => h y (List.mem_cons_of_mem _ hy))]
theorem shuts_sub (o : POp) : ∀ x ∈ shutsOf o, x ∈ readsOf o := by
  intro x hx
  cases o with
  | h o => cases o <;> simp [shutsOf, readsOf, readsOfH] at hx ⊢; exact hx
  | _ => simp [shutsOf] at hx
theorem app_put {p : PO} {q : PO} {jp jq : Nat} (hc : Comm jp p jq q) {d : Dm} (hd : Fits p.op d) (st : St) (u : PV) : d.app (put st jq q.dst u) = put (d.app st) jq q.dst u := by
  cases d with
  | none => rfl
  | heap h => cases q.dst <;> rfl
  | shut xs => exact shuts_put st u (fun x hx => hc.qp x (reads_sub p x (shuts_sub _ x (hd.2 ▸ hx))))
  | src y =>
    have hy := hc.qp y (reads_sub p y (takes_sub _ y hd))
    cases hq : q.dst with
    | n => rfl
    | v i =>
      rw [hq] at hy
      cases y with
      | c z => rfl
      | l k => rfl
      | v k => simp [isX, sameX] at hy; simp only [Dm.app, put]; rw [set_modify _ _ _ _ _ hy]
    | l =>
      rw [hq] at hy
      cases y with
      | c z => rfl
      | v k => rfl
      | l k => simp [isX, sameX] at hy; simp only [Dm.app, put]; rw [set_modify _ _ _ _ _ hy]
  | cell s off =>
    cases hq : q.dst with
    | n => rfl
    | l => rfl
    | v i =>
      have h0 := hc.qv (by rw [hq]; rfl)
      have h3 : memOf p.op = 3 := hd
      omega
theorem put_put {jp jq : Nat} {d d' : PD} (hj : jp ≠ jq) (h : sameD d d' = false) (st : St) (u u' : PV) : put (put st jp d u) jq d' u' = put (put st jq d' u') jp d u := by
  cases d <;> cases d' <;> simp [sameD] at h <;> simp only [put] <;> (try rfl)
  · rw [List.set_comm _ _ h]
  · rw [List.set_comm _ _ hj]
theorem swap {cf : CallF} {jp jq : Nat} {p q : PO} (hj : jp ≠ jq) (hc : Comm jp p jq q) {st st1 st2 : St} (h1 : step1 cf jp p st = some st1) (h2 : step1 cf jq q st1 = some st2) :
    ∃ st1', step1 cf jq q st = some st1' ∧ step1 cf jp p st1' = some st2 := by
  obtain ⟨d, u, e1, f1, s1⟩ := step1_dm hc.mp h1
  obtain ⟨d', u', e2, f2, s2⟩ := step1_dm hc.mq h2
  subst e1
  have hq := s2 st (sim_change hc f1 st u).2
  refine ⟨_, hq, ?_⟩
  have hp := s1 _ (sim_change hc.symm f2 st u').1
  rw [hp, e2]
  congr 1
  rw [app_put hc f1, app_put hc.symm f2, app_app f1 f2 hc.mm hc.m4 hc.h2]
  exact put_put (fun e => hj e.symm) (by rw [sameD_symm]; exact hc.dd) _ _ _
theorem execL_front {cf : CallF} {pos : List PO} {i : Nat} {q : PO} (hi : pos[i]? = some q) {post : List Nat} : ∀ {pre : List Nat} {st st' : St}, (∀ j ∈ pre, j ≠ i ∧ ∀ p, pos[j]? = some p → Comm j p i q) →
    execL cf pos (pre ++ i :: post) st = some st' → execL cf pos (i :: (pre ++ post)) st = some st'
  | [], st, st', _, h => h
  | j :: pre, st, st', hc, h => by
    simp only [List.cons_append, execL] at h
    split at h
    · rename_i p hp
      simp only [Option.bind_eq_some_iff] at h
      obtain ⟨st1, h1, h2⟩ := h
      have ih := execL_front hi (fun j' hj' => hc j' (by simp [hj'])) h2
      simp only [execL, hi, Option.bind_eq_some_iff] at ih
      obtain ⟨st2, h3, h4⟩ := ih
      obtain ⟨hj, hcm⟩ := hc j (by simp)
      obtain ⟨st1', h5, h6⟩ := swap hj (hcm p hp) h1 h3
      simp only [List.cons_append, execL, hi, hp, h5, Option.bind_some, h6]
      exact h4
    · simp at h
inductive Pre (ops : Array Oper) : Nat → Nat → Prop where
  | edge {i : Nat} {o : Oper} {e : Edge} (ho : ops[i]? = some o) (he : e ∈ o.after) (hb : Region.binds .any e = true) : Pre ops e.on i
  | far {i j : Nat} {o : Oper} {e : Edge} (ho : ops[i]? = some o) (he : e ∈ o.after) (hb : Region.binds .any e = true) (h : Pre ops j e.on) : Pre ops j i
def force {α : Type} (m : Nat) (f : Nat → α) : α :=
  match m with
  | 0 => f 0
  | n + 1 => f (n + 1)
theorem force_eq {α : Type} (m : Nat) (f : Nat → α) : force m f = f m := by cases m <;> rfl
def wide : Nat := 1024
def rowOf (M : Nat) : List Edge → Nat → Nat
  | [], m => m
  | e :: es, m => if Region.binds .any e then force (m ||| 1 <<< e.on ||| M >>> (e.on * 1024) % 2 ^ wide) (rowOf M es) else rowOf M es m
def rows : List Oper → Nat → Nat → Nat
  | [], _, M => M
  | o :: os, i, M => force (M ||| (rowOf M o.after.toList 0 % 2 ^ wide) <<< (i * 1024)) (rows os (i + 1))
def GoodM (ops : Array Oper) (M : Nat) : Prop := ∀ i j, j < 1024 → M.testBit (i * 1024 + j) = true → Pre ops j i
theorem rowOf_ok {ops : Array Oper} {M : Nat} (hM : GoodM ops M) {i : Nat} {o : Oper} (ho : ops[i]? = some o) : ∀ (es : List Edge) (m : Nat), (∀ e ∈ es, e ∈ o.after) → (∀ j, j < 1024 → m.testBit j = true → Pre ops j i) → ∀ j, j < 1024 → (rowOf M es m).testBit j = true → Pre ops j i
  | [], m, _, hm => hm
  | e :: es, m, hes, hm => by
    intro j hj h
    simp only [rowOf] at h
    split at h
    · rename_i hb
      rw [force_eq] at h
      refine rowOf_ok hM ho es _ (fun x hx => hes x (by simp [hx])) ?_ j hj h
      intro k hk hk2
      simp only [Nat.testBit_or, Bool.or_eq_true] at hk2
      rcases hk2 with (hk2 | hk2) | hk2
      · exact hm k hk hk2
      · rw [Nat.one_shiftLeft, Nat.testBit_two_pow] at hk2
        have : e.on = k := by simpa using hk2
        exact this ▸ Pre.edge ho (hes e (by simp)) hb
      · rw [Nat.testBit_mod_two_pow, Nat.testBit_shiftRight] at hk2
        simp only [Bool.and_eq_true] at hk2
        exact Pre.far ho (hes e (by simp)) hb (hM e.on k hk hk2.2)
    · exact rowOf_ok hM ho es m (fun x hx => hes x (by simp [hx])) hm j hj h
theorem rows_ok {ops : Array Oper} : ∀ (os : List Oper) (i M : Nat), (∀ k, os[k]? = ops[i + k]?) → GoodM ops M → GoodM ops (rows os i M)
  | [], _, _, _, hM => hM
  | o :: os, i, M, hs, hM => by
    simp only [rows, force_eq]
    have ho : ops[i]? = some o := by simpa using (hs 0).symm
    refine rows_ok os (i + 1) _ (fun k => by have := hs (k + 1); simp only [List.getElem?_cons_succ] at this; rw [this]; congr 1; omega) ?_
    intro a j hj h
    simp only [Nat.testBit_or, Bool.or_eq_true] at h
    rcases h with h | h
    · exact hM a j hj h
    · rw [Nat.testBit_shiftLeft, Nat.testBit_mod_two_pow] at h
      simp only [Bool.and_eq_true, decide_eq_true_eq] at h
      obtain ⟨h1, h2, h3⟩ := h
      have hw : wide = 1024 := rfl
      have ha : a = i := by omega
      subst ha
      rw [Nat.add_sub_cancel_left] at h3
      exact rowOf_ok hM ho o.after.toList 0 (by simp) (by simp) j hj h3
def pairOk (M : Nat) (pos : List PO) (i j : Nat) : Bool :=
  (match pos[j]?, pos[i]? with
  | some p, some q => comm j p i q
  | _, _ => false) || (decide (j < 1024) && M.testBit (i * 1024 + j))
def orderM (ops : Array Oper) (pos : List PO) (M : Nat) : Bool :=
  (List.range ops.size).all fun i => (match ops[i]? with | some o => o.after.all (fun e => !Region.binds .any e || decide (e.on < i)) | none => true) && (List.range i).all (pairOk M pos i)
def orderOk (ops : Array Oper) (pos : List PO) : Bool := force (rows ops.toList 0 0) (orderM ops pos)
def Closed (ops : Array Oper) (listed : Array Bool) : Prop :=
  ∀ (k : Nat) (o : Oper), ops[k]? = some o → listed.getD k false = true → ∀ e ∈ o.after, Region.binds .any e = true → listed.getD e.on false = true
theorem pred_listed {ops : Array Oper} {listed : Array Bool} (hcl : Closed ops listed) {j i : Nat} (h : Pre ops j i) : ∀ {o : Oper}, ops[i]? = some o → (∀ e ∈ o.after, Region.binds .any e = true → listed.getD e.on false = true) → listed.getD j false = true := by
  induction h with
  | edge ho he hb => intro o ho' hl; rw [ho] at ho'; cases ho'; exact hl _ he hb
  | @far i j o1 e ho he hb hp ih =>
    intro o ho' hl; rw [ho] at ho'; cases ho'
    have hon := hl _ he hb
    cases h' : ops[e.on]? with
    | none => exfalso; cases hp with
      | edge h1 => rw [h'] at h1; cases h1
      | far h1 => rw [h'] at h1; cases h1
    | some o' => exact ih h' (hcl e.on o' h' hon)
def remOf (n : Nat) (listed : Array Bool) : List Nat := (List.range n).filter fun i => !listed.getD i false
theorem filter_split {l : List Nat} {f : Nat → Bool} {i : Nat} (hs : l.Pairwise (· < ·)) (hi : i ∈ l) (hf : f i = true) :
    ∃ pre post, l.filter f = pre ++ i :: post ∧ (∀ j ∈ pre, j < i ∧ j ∈ l ∧ f j = true) ∧ l.filter (fun k => f k && k != i) = pre ++ post := by
  induction l with
  | nil => simp at hi
  | cons x xs ih =>
    rw [List.pairwise_cons] at hs
    rcases List.mem_cons.1 hi with rfl | hi
    · refine ⟨[], xs.filter f, by simp [hf], by simp, ?_⟩
      simp only [List.filter_cons, hf, bne_self_eq_false, Bool.and_false, Bool.false_eq_true, if_false, List.nil_append]
      apply List.filter_congr
      intro k hk
      have : k ≠ i := fun e => by have := hs.1 k hk; omega
      simp [this]
    · obtain ⟨pre, post, h1, h2, h3⟩ := ih hs.2 hi
      have hlt := hs.1 i hi
      have hne : (x != i) = true := by simp; omega
      by_cases hx : f x = true
      · refine ⟨x :: pre, post, by simp [hx, h1], ?_, by simp [List.filter_cons, hx, hne, h3]⟩
        intro j hj
        rcases List.mem_cons.1 hj with rfl | hj
        · exact ⟨hlt, by simp, hx⟩
        · obtain ⟨a, b, c⟩ := h2 j hj
          exact ⟨a, by simp [b], c⟩
      · refine ⟨pre, post, by simp [hx, h1], ?_, by simp [List.filter_cons, hx, h3]⟩
        intro j hj
        obtain ⟨a, b, c⟩ := h2 j hj
        exact ⟨a, by simp [b], c⟩
section
variable {E : Env} {N : Nm} {vs : List Tmp} {P : Program} {ops : Array Oper} {Q : Exit → Act → World → Prop}
theorem any_sound {L : Nat → Option PFunc} (hF : FnsOK N P L) (hE : EnvOk E N) (hP : E.P = P) (nm : Names vs (lmap vs ops.toList)) {cf : CallF} (hcf : CallOK N P cf)
    (hcL : ∀ k args h r, cf k args h = some r → ∃ f, L k = some f) {pos : List PO} (hc : cOpers E vs ops.toList ops.toList = some pos) (hord : orderOk ops pos = true) :
    ∀ (fuel : Nat) {listed : Array Bool} {st st' : St} {w : World} {G : GS} {a : Act}, listed.size = ops.size → (remOf ops.size listed).length ≤ fuel → Closed ops listed → execL cf pos (remOf ops.size listed) st = some st' →
      FI N w G st a vs (lmap vs ops.toList) → Next1 N w G a st' vs ops.toList (Q .normal) → wpAny P .any ops Q fuel listed a w := by
  have hlen : ops.size = pos.length := by have := (cOpers_get hc).1; simpa using this
  have hGM : GoodM ops (rows ops.toList 0 0) := rows_ok _ _ _ (by simp) (fun i j _ h => by simp at h)
  have hord : orderM ops pos (rows ops.toList 0 0) = true := by rw [orderOk, force_eq] at hord; exact hord
  have hedge : ∀ i o, ops[i]? = some o → ∀ e ∈ o.after, Region.binds .any e = true → e.on < i := by
    intro i o ho e he hb
    have hi : i < ops.size := (Array.getElem?_eq_some_iff.1 ho).1
    have := List.all_eq_true.1 hord i (by simpa using hi)
    simp only [ho, Bool.and_eq_true, Array.all_eq_true_iff_forall_mem] at this
    have := this.1 e he
    simpa [hb] using this
  have hpair : ∀ i j, i < ops.size → j < i → pairOk (rows ops.toList 0 0) pos i j = true := by
    intro i j hi hj
    have := List.all_eq_true.1 hord i (by simpa using hi)
    simp only [Bool.and_eq_true] at this
    exact List.all_eq_true.1 this.2 j (by simpa using hj)
  have hready : ∀ {listed : Array Bool}, listed.size = ops.size → Region.ready .any ops listed = [] → remOf ops.size listed = [] := by
    intro listed hsz hr
    rcases List.eq_nil_or_concat (remOf ops.size listed) with h | ⟨_, _, h⟩
    · exact h
    · exfalso
      cases hrem : remOf ops.size listed with
      | nil => rw [hrem] at h; simp at h
      | cons m rest =>
        have hm : m ∈ remOf ops.size listed := by rw [hrem]; simp
        simp only [remOf, List.mem_filter, List.mem_range, Bool.not_eq_true'] at hm
        have hsort : (remOf ops.size listed).Pairwise (· < ·) := List.Pairwise.filter _ List.pairwise_lt_range
        rw [hrem, List.pairwise_cons] at hsort
        have hmr : m ∈ Region.ready .any ops listed := by
          rw [mem_ready]
          refine ⟨?_, ops[m], by simp [hm.1], ?_⟩
          · have := hm.2
            simp only [Array.getD_eq_getD_getElem?] at this ⊢
            have hlt : m < listed.size := by omega
            simpa [hlt] using this
          · intro e he hb
            have hlt := hedge m ops[m] (by simp [hm.1]) e he hb
            cases hl : listed.getD e.on false with
            | true => rfl
            | false =>
              have hin : e.on ∈ remOf ops.size listed := by
                simp only [remOf, List.mem_filter, List.mem_range, hl, Bool.not_false, and_true]
                omega
              rw [hrem] at hin
              rcases List.mem_cons.1 hin with h | h
              · omega
              · have := hsort.1 _ h; omega
        rw [hr] at hmr
        simp at hmr
  intro fuel
  induction fuel with
  | zero =>
    intro listed st st' w G a hsz hl hcl hx hf hk
    have h0 : remOf ops.size listed = [] := List.length_eq_zero_iff.1 (by omega)
    rw [h0] at hx
    simp [execL] at hx; subst hx
    refine ⟨?_, hk _ _ G hf (Ext.refl _ _) rfl⟩
    refine List.eq_nil_iff_forall_not_mem.2 fun i hi => ?_
    rw [mem_ready] at hi
    obtain ⟨hi1, o, ho, _⟩ := hi
    have hlt : i < ops.size := (Array.getElem?_eq_some_iff.1 ho).1
    have : i ∈ remOf ops.size listed := by
      simp only [remOf, List.mem_filter, List.mem_range, hlt, true_and]
      have hl' : i < listed.size := by omega
      simp only [Array.getD_eq_getD_getElem?] at hi1 ⊢
      simpa [hl'] using hi1
    rw [h0] at this
    simp at this
  | succ fuel ih =>
    intro listed st st' w G a hsz hl hcl hx hf hk
    refine ⟨?_, ?_⟩
    · intro hr
      rw [hready hsz hr] at hx
      simp [execL] at hx; subst hx
      exact hk _ _ G hf (Ext.refl _ _) rfl
    · intro i hi
      rw [mem_ready] at hi
      obtain ⟨hi1, o, ho, hpre⟩ := hi
      have hlt : i < ops.size := (Array.getElem?_eq_some_iff.1 ho).1
      have hun : listed.getD i false = false := by
        have hl' : i < listed.size := by omega
        simp only [Array.getD_eq_getD_getElem?] at hi1 ⊢
        simpa [hl'] using hi1
      obtain ⟨q, hq, hcq⟩ := (cOpers_get hc).2 i o (by simpa using ho)
      obtain ⟨pre, post, e1, e2, e3⟩ := filter_split (f := fun k => !listed.getD k false) (List.pairwise_lt_range (n := ops.size)) (by simpa using hlt) (by simp only [hun]; rfl)
      have hx' : execL cf pos (i :: (pre ++ post)) st = some st' := by
        refine execL_front hq ?_ (by rw [← e1]; exact hx)
        intro j hj
        obtain ⟨a1, a2, a3⟩ := e2 j hj
        refine ⟨by omega, fun p hp => ?_⟩
        have hpo := hpair i j hlt a1
        simp only [pairOk, hp, hq, Bool.or_eq_true] at hpo
        rcases hpo with h | h
        · exact comm_spec h
        · simp only [Bool.and_eq_true, decide_eq_true_eq] at h
          have := pred_listed hcl (hGM i j h.1 h.2) ho hpre
          simp only [this] at a3
          simp at a3
      simp only [execL, hq, Option.bind_eq_some_iff] at hx'
      obtain ⟨st1, hs1, hs2⟩ := hx'
      refine step1_sound hF hE hP nm ho hf hcf hcL hcq hs1 ?_
      intro a' w' G' hf' he hsize
      have hrem : remOf ops.size (listed.setIfInBounds i true) = pre ++ post := by
        rw [← e3]
        unfold remOf
        apply List.filter_congr
        intro k hk'
        by_cases hki : k = i
        · subst hki
          have hl' : k < listed.size := by omega
          simp [Array.getD_eq_getD_getElem?, Array.getElem?_setIfInBounds, hl']
        · rw [getD_set_ne _ (Ne.symm hki)]
          simp [hki]
      refine ih (by simp [hsz]) ?_ ?_ (by rw [hrem]; exact hs2) hf' (hk.trans he hsize)
      · rw [hrem]
        have : (remOf ops.size listed).length = (pre ++ i :: post).length := by unfold remOf; rw [e1]
        simp at this ⊢
        omega
      · intro k o' ho' hk1 e he' hb
        by_cases hki : k = i
        · subst hki
          have : o' = o := by rw [ho] at ho'; simpa using ho'.symm
          subst this
          exact getD_set_true (hpre e he' hb)
        · rw [getD_set_ne _ (Ne.symm hki)] at hk1
          exact getD_set_true (hcl k o' ho' hk1 e he' hb)
end
end PI
set_option linter.unusedSimpArgs false
set_option linter.unusedVariables false
namespace PI
open Go
def W (r : Option Nat) : Fence := { Fence.wide with round := r }
section
variable {P : Program} {r : Option Nat} {n : Nat} {ops : Array Oper} {Q : Exit → Act → World → Prop}
theorem W_fn (f : FuncId) : (W r).fn f := trivial
theorem W_room (k : Nat) : (W r).room k := fun d h => by simp [W, Fence.wide] at h
theorem W_depth : (W r).depth.isSome = true → 1 ≤ n := fun h => by simp [W, Fence.wide] at h
theorem callsW {f : FuncId} {args : Array Value} {w : World} {R : Ending → World → Prop} (h : Calls P f args w R) : CallsIn (W r) n P f args w R := (callsIn_wide (n := n)).2 h
theorem calls_of_W {f : FuncId} {args : Array Value} {w : World} {R : Ending → World → Prop} (h : CallsIn (W r) n P f args w R) : Calls P f args w R := (callsIn_wide (n := n)).1 h
theorem rowsW {row : String} {args : Array Value} {w : World} {R : Value → World → Prop} (h : Rows P row args w R) : RowsIn (W r) n P row args w R :=
  fun c cs _ => let ⟨v, w', hr, hs⟩ := h c cs; ⟨v, w', hr, stepsIn_wide.2 hs⟩
theorem opIn_of {o : Oper} {a : Act} {w : World} {K : Act → World → Prop} (hd : ∀ c, o.op ≠ .defer c) (h : o.wp P a w K Q) : o.wpIn (W r) n P a w K Q := by
  refine ⟨fun _ _ => W_fn _, ?_⟩
  rw [Oper.semAt_eq _ _ _ hd]
  unfold Oper.wp at h
  generalize (execOp a.eval o).run P w = res at h
  cases res with
  | ok x w' =>
    cases x <;> simp only [Oper.upon] at h <;> simp only [Oper.uponIn] <;> first | exact h | exact ⟨W_depth, callsW h⟩ | exact ⟨W_depth, rowsW h⟩ | exact h.elim
  | halt x w' => cases x <;> simp only [Oper.upon] at h <;> simp only [Oper.uponIn] <;> first | exact h | exact h.elim
theorem wpOpIn_of {i : Nat} {a : Act} {w : World} {K : Act → World → Prop} (hd : ∀ o c, ops[i]? = some o → o.op ≠ .defer c) (hQ : ¬ LetsOut Q) (h : wpOp P ops Q i K a w) : wpOpIn (W r) n P ops Q i K a w := by
  unfold wpOp at h
  unfold wpOpIn
  split
  · rename_i ho; simp only [ho] at h; exact h
  · rename_i o ho
    simp only [ho] at h
    split
    · rename_i hw
      simp only [hw, if_true] at h
      rcases h with h | h
      · exact opIn_of (fun c => hd o c ho) h
      · exact absurd h.2 hQ
    · rename_i hw
      simp only [hw] at h
      exact ⟨fun _ _ => W_fn _, h⟩
theorem wpOpsIn_of (hd : ∀ (i : Nat) o c, ops[i]? = some o → o.op ≠ .defer c) (hQ : ¬ LetsOut Q) : ∀ {l : List Nat} {a : Act} {w : World}, wpOps P ops Q l a w → wpOpsIn (W r) n P ops Q l a w
  | [], _, _, h => h
  | i :: l, a, w, h => by
    rw [wpOps_cons] at h
    rw [wpOpsIn_cons]
    exact wpOpIn_mono (fun a w h => wpOpsIn_of hd hQ h) (wpOpIn_of (fun o c => hd i o c) hQ h)
theorem fencedW (m : Machine) : m.fenced P (W r) := fenced_wide P m
end
end PI
set_option linter.unusedSimpArgs false
set_option linter.unusedVariables false
namespace PI
open Go
def brunL (cf : CallF) (ob : OutF) (pos : List PO) : List Nat → St → Option (Option PV × St)
  | [], st => some (none, st)
  | i :: l, st =>
    match pos[i]? with
    | some p => match bstep cf ob i p st with
      | some (none, st) => brunL cf ob pos l st
      | r => r
    | none => none
section
variable {cf : CallF} {ob : OutF} {pos : List PO}
theorem bstep_plain {j : Nat} {p : PO} {st : St} (h : isB p = false) : bstep cf ob j p st = (step1 cf j p st).map fun st => (none, st) := by
  unfold bstep
  unfold isB at h
  split
  · rename_i h1 h2; rw [h1] at h; simp at h
  · rename_i h1 h2; rw [h1] at h; simp at h
  · rename_i h1 h2; rw [h1] at h; simp at h
  · rename_i h1 h2; rw [h1] at h; simp at h
  · rfl
theorem brunL_plain : ∀ {l : List Nat} {st : St}, (∀ i ∈ l, ∀ p, pos[i]? = some p → isB p = false) → brunL cf ob pos l st = (execL cf pos l st).map fun st => (none, st)
  | [], st, _ => rfl
  | i :: l, st, h => by
    simp only [brunL, execL]
    cases hp : pos[i]? with
    | none => rfl
    | some p =>
      simp only [bstep_plain (h i (by simp) p hp)]
      cases step1 cf i p st with
      | none => rfl
      | some st1 => simpa using brunL_plain (fun j hj => h j (by simp [hj]))
theorem brunL_append : ∀ (l1 l2 : List Nat) (st : St), brunL cf ob pos (l1 ++ l2) st = match brunL cf ob pos l1 st with
    | some (none, st) => brunL cf ob pos l2 st
    | r => r
  | [], l2, st => rfl
  | i :: l1, l2, st => by
    simp only [List.cons_append, brunL]
    cases hp : pos[i]? with
    | none => rfl
    | some p =>
      simp only
      cases bstep cf ob i p st with
      | none => rfl
      | some x =>
        obtain ⟨y, st1⟩ := x
        cases y with
        | none => exact brunL_append l1 l2 st1
        | some v => rfl
theorem brun_L {all : List PO} : ∀ {os : List PO} {j : Nat} {st : St}, all.drop j = os → brun cf ob j os st = brunL cf ob all (List.range' j os.length) st
  | [], j, st, _ => rfl
  | o :: os, j, st, h => by
    have hj : all[j]? = some o := by
      have := congrArg List.head? h
      simpa [List.head?_drop] using this
    have ht : all.drop (j + 1) = os := by
      have := congrArg List.tail h
      simpa [List.tail_drop] using this
    simp only [brun, List.length_cons, List.range'_succ, brunL, hj]
    cases bstep cf ob j o st with
    | none => rfl
    | some x =>
      obtain ⟨y, st1⟩ := x
      cases y with
      | none => exact brun_L ht
      | some v => rfl
theorem brunL_front {i : Nat} {q : PO} (hi : pos[i]? = some q) {pre post : List Nat} {st : St} {r : Option PV × St} (hb : pre ≠ [] → isB q = false) (hpre : ∀ j ∈ pre, ∀ p, pos[j]? = some p → isB p = false)
    (hc : ∀ j ∈ pre, j ≠ i ∧ ∀ p, pos[j]? = some p → Comm j p i q) (h : brunL cf ob pos (pre ++ i :: post) st = some r) : brunL cf ob pos (i :: (pre ++ post)) st = some r := by
  cases pre with
  | nil => exact h
  | cons j0 pre0 =>
    have hq : isB q = false := hb (by simp)
    generalize hpr : j0 :: pre0 = pre at *
    have e1 : pre ++ i :: post = (pre ++ [i]) ++ post := by simp
    have e2 : i :: (pre ++ post) = (i :: pre) ++ post := rfl
    have p1 : ∀ k ∈ pre ++ [i], ∀ p, pos[k]? = some p → isB p = false := by
      intro k hk p hp
      rcases List.mem_append.1 hk with hk | hk
      · exact hpre k hk p hp
      · simp at hk; subst hk; rw [hi] at hp; simp at hp; subst hp; exact hq
    have p2 : ∀ k ∈ i :: pre, ∀ p, pos[k]? = some p → isB p = false := by
      intro k hk p hp
      rcases List.mem_cons.1 hk with rfl | hk
      · rw [hi] at hp; simp at hp; subst hp; exact hq
      · exact hpre k hk p hp
    rw [e1, brunL_append, brunL_plain p1] at h
    rw [e2, brunL_append, brunL_plain p2]
    cases hx : execL cf pos (pre ++ [i]) st with
    | none => rw [hx] at h; simp at h
    | some st1 =>
      have := execL_front hi hc (post := []) hx
      rw [List.append_nil] at this
      rw [this]
      rw [hx] at h
      exact h
theorem isB_mem {p : PO} (h : isB p = true) : memOf p.op = 2 := by
  unfold isB at h
  split at h <;> first | (rename_i e; rw [e]; rfl) | simp at h
theorem comm_noB {i j : Nat} {p q : PO} (h : comm j p i q = true) : isB p = false ∧ isB q = false := by
  simp only [comm, Bool.and_eq_true, bne_iff_ne, ne_eq] at h
  obtain ⟨h1, h2⟩ := h.1.1.1.1.1.1.1.1.1.1.1
  exact ⟨by cases hp : isB p with | false => rfl | true => exact absurd (isB_mem hp) h1, by cases hp : isB q with | false => rfl | true => exact absurd (isB_mem hp) h2⟩
end
theorem lin_run {ops : Array Oper} {pos : List PO} {cf : CallF} {ob : OutF} (hlen : ops.size = pos.length) (hord : orderOk ops pos = true) :
    ∀ (fuel t : Nat) {listed : Array Bool} {st : St} {r : Option PV × St}, listed.size = ops.size → (remOf ops.size listed).length ≤ fuel → Closed ops listed → brunL cf ob pos (remOf ops.size listed) st = some r →
      brunL cf ob pos (Region.linearise.go .any ops fuel t listed []) st = some r := by
  have hGM : GoodM ops (rows ops.toList 0 0) := rows_ok _ _ _ (by simp) (fun i j _ h => by simp at h)
  have hord : orderM ops pos (rows ops.toList 0 0) = true := by rw [orderOk, force_eq] at hord; exact hord
  have hedge : ∀ i o, ops[i]? = some o → ∀ e ∈ o.after, Region.binds .any e = true → e.on < i := by
    intro i o ho e he hb
    have hi : i < ops.size := (Array.getElem?_eq_some_iff.1 ho).1
    have := List.all_eq_true.1 hord i (by simpa using hi)
    simp only [ho, Bool.and_eq_true, Array.all_eq_true_iff_forall_mem] at this
    have := this.1 e he
    simpa [hb] using this
  have hpair : ∀ i j, i < ops.size → j < i → pairOk (rows ops.toList 0 0) pos i j = true := by
    intro i j hi hj
    have := List.all_eq_true.1 hord i (by simpa using hi)
    simp only [Bool.and_eq_true] at this
    exact List.all_eq_true.1 this.2 j (by simpa using hj)
  have hready : ∀ {listed : Array Bool}, listed.size = ops.size → Region.ready .any ops listed = [] → remOf ops.size listed = [] := by
    intro listed hsz hr
    rcases List.eq_nil_or_concat (remOf ops.size listed) with h | ⟨_, _, h⟩
    · exact h
    · exfalso
      cases hrem : remOf ops.size listed with
      | nil => rw [hrem] at h; simp at h
      | cons m rest =>
        have hm : m ∈ remOf ops.size listed := by rw [hrem]; simp
        simp only [remOf, List.mem_filter, List.mem_range, Bool.not_eq_true'] at hm
        have hsort : (remOf ops.size listed).Pairwise (· < ·) := List.Pairwise.filter _ List.pairwise_lt_range
        rw [hrem, List.pairwise_cons] at hsort
        have hmr : m ∈ Region.ready .any ops listed := by
          rw [mem_ready]
          refine ⟨?_, ops[m], by simp [hm.1], ?_⟩
          · have := hm.2
            simp only [Array.getD_eq_getD_getElem?] at this ⊢
            have hlt : m < listed.size := by omega
            simpa [hlt] using this
          · intro e he hb
            have hlt := hedge m ops[m] (by simp [hm.1]) e he hb
            cases hl : listed.getD e.on false with
            | true => rfl
            | false =>
              have hin : e.on ∈ remOf ops.size listed := by
                simp only [remOf, List.mem_filter, List.mem_range, hl, Bool.not_false, and_true]
                omega
              rw [hrem] at hin
              rcases List.mem_cons.1 hin with h | h
              · omega
              · have := hsort.1 _ h; omega
        rw [hr] at hmr
        simp at hmr
  intro fuel
  induction fuel with
  | zero =>
    intro t listed st r hsz hl hcl hx
    have h0 : remOf ops.size listed = [] := List.length_eq_zero_iff.1 (by omega)
    rw [h0] at hx
    simpa [Region.linearise.go] using hx
  | succ fuel ih =>
    intro t listed st r hsz hl hcl hx
    simp only [Region.linearise.go]
    change brunL cf ob pos (match (Region.ready .any ops listed)[t % (Region.ready .any ops listed).length]? with
      | some i => Region.linearise.go .any ops fuel (t / (Region.ready .any ops listed).length) (listed.setIfInBounds i true) [i]
      | none => [].reverse) st = some r
    cases hi : (Region.ready .any ops listed)[t % (Region.ready .any ops listed).length]? with
    | none =>
      have hnil : Region.ready .any ops listed = [] := by
        cases hr : Region.ready .any ops listed with
        | nil => rfl
        | cons x xs =>
          rw [hr] at hi
          have hlt : t % (x :: xs).length < (x :: xs).length := Nat.mod_lt _ (by simp)
          simp at hi
          simp at hlt
          omega
      rw [hready hsz hnil] at hx
      simpa using hx
    | some i =>
      simp only []
      rw [linearise_go_acc, List.reverse_singleton, List.singleton_append]
      have hi := List.mem_of_getElem? hi
      rw [mem_ready] at hi
      obtain ⟨hi1, o, ho, hpre⟩ := hi
      have hlt : i < ops.size := (Array.getElem?_eq_some_iff.1 ho).1
      have hun : listed.getD i false = false := by
        have hl' : i < listed.size := by omega
        simp only [Array.getD_eq_getD_getElem?] at hi1 ⊢
        simpa [hl'] using hi1
      obtain ⟨q, hq⟩ : ∃ q, pos[i]? = some q := ⟨pos[i], List.getElem?_eq_getElem (by omega)⟩
      obtain ⟨pre, post, e1, e2, e3⟩ := filter_split (f := fun k => !listed.getD k false) (List.pairwise_lt_range (n := ops.size)) (by simpa using hlt) (by simp only [hun]; rfl)
      have hcm : ∀ j ∈ pre, j < i ∧ ∀ p, pos[j]? = some p → comm j p i q = true := by
        intro j hj
        obtain ⟨a1, a2, a3⟩ := e2 j hj
        refine ⟨by omega, fun p hp => ?_⟩
        have hpo := hpair i j hlt a1
        simp only [pairOk, hp, hq, Bool.or_eq_true] at hpo
        rcases hpo with h | h
        · exact h
        · simp only [Bool.and_eq_true, decide_eq_true_eq] at h
          have := pred_listed hcl (hGM i j h.1 h.2) ho hpre
          simp only [this] at a3
          simp at a3
      have hx' : brunL cf ob pos (i :: (pre ++ post)) st = some r := by
        refine brunL_front hq ?_ (fun j hj p hp => (comm_noB ((hcm j hj).2 p hp)).1) (fun j hj => ⟨by have := (hcm j hj).1; omega, fun p hp => comm_spec ((hcm j hj).2 p hp)⟩) (by rw [← e1]; exact hx)
        intro hne
        cases pre with
        | nil => exact absurd rfl hne
        | cons j0 _ =>
          have hj0 : j0 < pos.length := by have := (hcm j0 (by simp)).1; omega
          exact (comm_noB ((hcm j0 (by simp)).2 pos[j0] (List.getElem?_eq_getElem hj0))).2
      simp only [brunL, hq] at hx' ⊢
      cases hs : bstep cf ob i q st with
      | none => rw [hs] at hx'; exact hx'
      | some y =>
        obtain ⟨z, st1⟩ := y
        rw [hs] at hx'
        cases z with
        | some v => exact hx'
        | none =>
          simp only at hx' ⊢
          have hrem : remOf ops.size (listed.setIfInBounds i true) = pre ++ post := by
            rw [← e3]
            unfold remOf
            apply List.filter_congr
            intro k hk'
            by_cases hki : k = i
            · subst hki
              have hl' : k < listed.size := by omega
              simp [Array.getD_eq_getD_getElem?, Array.getElem?_setIfInBounds, hl']
            · rw [getD_set_ne _ (Ne.symm hki)]
              simp [hki]
          refine ih _ (by simp [hsz]) ?_ ?_ (by rw [hrem]; exact hx')
          · rw [hrem]
            have : (remOf ops.size listed).length = (pre ++ i :: post).length := by unfold remOf; rw [e1]
            simp at this ⊢
            omega
          · intro k o' ho' hk1 e he' hb
            by_cases hki : k = i
            · subst hki
              have : o' = o := by rw [ho] at ho'; simpa using ho'.symm
              subst this
              exact getD_set_true (hpre e he' hb)
            · rw [getD_set_ne _ (Ne.symm hki)] at hk1
              exact getD_set_true (hcl k o' ho' hk1 e he' hb)
end PI
