/-
  What is written is read as it was; the law TraceRound, run.
-/
import Derived.Test.YtegahghjancjpaaGreatDoorPiTrRun5
set_option maxRecDepth 100000
set_option linter.unusedSimpArgs false
set_option linter.unusedVariables false
namespace PI.Tr

/-! ### Numbers -/

theorem parse_snoc (b : UInt8) : ∀ (l : Str) (acc u : Nat), Go.Lib.parseUint10 acc l = .ok u → 48 ≤ b.toNat → b.toNat ≤ 57 → u < 100000000 → Go.Lib.parseUint10 acc (l ++ [b]) = .ok (u * 10 + (b.toNat - 48))
  | [], acc, u, h, h1, h2, h3 => by
    simp only [Go.Lib.parseUint10] at h
    injection h with h
    subst h
    simp only [List.nil_append, Go.Lib.parseUint10]
    rw [if_pos ⟨h1, h2⟩, if_neg (by omega), if_neg (by omega)]
  | c :: r, acc, u, h, h1, h2, h3 => by
    simp only [Go.Lib.parseUint10] at h
    simp only [List.cons_append, Go.Lib.parseUint10]
    split at h
    · rename_i hc
      rw [if_pos hc]
      split at h
      · cases h
      · rename_i hc2
        rw [if_neg hc2]
        split at h
        · cases h
        · rename_i hc3
          rw [if_neg hc3]
          exact parse_snoc b r _ u h h1 h2 h3
    · cases h

theorem dig_nat (k : Nat) (h : k < 10) : (UInt8.ofNat (48 + k)).toNat = 48 + k := by
  simp; omega

theorem parse_dec : ∀ (u : Nat), u < 100000000 → Go.Lib.parseUint10 0 (Go.Lib.decDigits u) = .ok u := by
  intro u
  induction u using Nat.strongRecOn with
  | _ u ih =>
    intro hu
    rw [Go.Lib.decDigits]
    split
    · rename_i h
      have := dig_nat u h
      simp only [Go.Lib.parseUint10]
      rw [if_pos (by omega), if_neg (by omega), if_neg (by omega)]
      congr 1; omega
    · rename_i h
      have hd := dig_nat (u % 10) (by omega)
      rw [parse_snoc _ _ 0 (u / 10) (ih (u / 10) (by omega) (by omega)) (by omega) (by omega) (by omega)]
      congr 1; omega

theorem dec_digits : ∀ (u : Nat), ∀ b ∈ Go.Lib.decDigits u, 48 ≤ b.toNat ∧ b.toNat ≤ 57 := by
  intro u
  induction u using Nat.strongRecOn with
  | _ u ih =>
    intro b hb
    rw [Go.Lib.decDigits] at hb
    split at hb
    · rename_i h
      have := dig_nat u h
      simp only [List.mem_singleton] at hb
      subst hb; omega
    · rename_i h
      have hd := dig_nat (u % 10) (by omega)
      rcases List.mem_append.1 hb with hb | hb
      · exact ih (u / 10) (by omega) b hb
      · simp only [List.mem_singleton] at hb
        subst hb; omega
theorem dec_ne (u : Nat) : Go.Lib.decDigits u ≠ [] := by
  rw [Go.Lib.decDigits]
  split <;> simp

theorem atoi_itoa (v : Int) (h1 : -32768 ≤ v) (h2 : v ≤ 32767) : Go.Lib.atoiAll (Go.Lib.itoa v) = .ok v := by
  unfold Go.Lib.itoa
  by_cases hv : v < 0
  · rw [if_pos hv]
    have hp := parse_dec v.natAbs (by omega)
    simp only [Go.Lib.atoiAll, Go.Lib.parseMag]
    have e : (45 : UInt8).toNat = 45 := rfl
    simp only [e, or_true, if_true, dec_ne, if_false, hp]
    rw [if_neg (by simp), if_neg (by simp; omega)]
    congr 1; omega
  · rw [if_neg hv]
    have hp := parse_dec v.toNat (by omega)
    have hdg := dec_digits v.toNat
    have hne := dec_ne v.toNat
    cases hl : Go.Lib.decDigits v.toNat with
    | nil => exact absurd hl hne
    | cons c r =>
      rw [hl] at hp hdg
      have hc := hdg c (List.mem_cons_self ..)
      simp only [Go.Lib.atoiAll, Go.Lib.parseMag]
      rw [if_neg (show ¬ (c.toNat = 43 ∨ c.toNat = 45) by omega), if_neg (by simp), hp]
      have n45 : ¬ c.toNat = 45 := by omega
      simp only [n45, not_false_eq_true, true_and, false_and, if_false]
      rw [if_neg (by omega)]
      congr 1; omega

theorem intOf_itoa (v : Int) (h1 : -32768 ≤ v) (h2 : v ≤ 32767) : intOf (Go.Lib.itoa v) = some v := by
  unfold intOf
  rw [atoi_itoa v h1 h2]
  simp [h1, h2]

/-! ### Words -/

def Clean (w : Str) : Prop := w ≠ [] ∧ (32 : UInt8) ∉ w ∧ (10 : UInt8) ∉ w

theorem split_join (c : UInt8) : ∀ (ws : List Str), ws ≠ [] → (∀ w ∈ ws, c ∉ w) → split c (Go.Lib.join ws [c]) = ws
  | [], h, _ => absurd rfl h
  | [w], _, h => by rw [Go.Lib.join_one]; exact split_no c w (h w (by simp))
  | w :: x :: r, _, h => by
    rw [join_cons2, split_cut c w _ (h w (by simp)), split_join c (x :: r) (by simp) (fun y hy => h y (List.mem_cons_of_mem _ hy))]
theorem words_join (ws : List Str) (h : ∀ w ∈ ws, Clean w) : wordsOf (Go.Lib.join ws [32]) = ws := by
  cases ws with
  | nil => rfl
  | cons w r =>
    unfold wordsOf
    have hne : Go.Lib.join (w :: r) [32] ≠ [] := by
      rw [Go.Lib.join_cons]
      intro e
      exact (h w (by simp)).1 (List.append_eq_nil_iff.1 e).1
    rw [if_neg hne]
    exact split_join 32 _ (by simp) (fun y hy => (h y hy).2.1)
theorem join_no (c d : UInt8) (hcd : c ≠ d) : ∀ (ws : List Str), (∀ w ∈ ws, c ∉ w) → c ∉ Go.Lib.join ws [d]
  | [], _ => by simp [Go.Lib.join_nil]
  | [w], h => by rw [Go.Lib.join_one]; exact h w (by simp)
  | w :: x :: r, h => by
    rw [join_cons2]
    simp only [List.mem_append, List.mem_cons, not_or]
    exact ⟨h w (by simp), hcd, join_no c d hcd (x :: r) (fun y hy => h y (List.mem_cons_of_mem _ hy))⟩

theorem ident_clean {w : Str} (h : ident w = true) : Clean w := by
  unfold ident at h
  simp only [Bool.and_eq_true, decide_eq_true_eq, List.all_eq_true] at h
  obtain ⟨⟨⟨⟨h1, _⟩, _⟩, h2⟩, _⟩ := h
  have no : ∀ b : UInt8, inner b.toNat = false → b ∉ w := fun b hb hm => by
    have := h2 b hm
    rw [hb] at this; simp at this
  exact ⟨h1, no 32 (by decide), no 10 (by decide)⟩
theorem itoa_clean (v : Int) : Clean (Go.Lib.itoa v) := by
  have no : ∀ (u : Nat) (b : UInt8), b.toNat < 48 → b ∉ Go.Lib.decDigits u := fun u b hb hm => by have := dec_digits u b hm; omega
  unfold Go.Lib.itoa
  split
  · exact ⟨by simp, by simp only [List.mem_cons, not_or]; exact ⟨by decide, no _ _ (by decide)⟩, by simp only [List.mem_cons, not_or]; exact ⟨by decide, no _ _ (by decide)⟩⟩
  · exact ⟨dec_ne _, no _ _ (by decide), no _ _ (by decide)⟩
end PI.Tr

namespace PI.Tr

structure Named (en : List Enum) : Prop where
  few : en.length ≤ 30
  ident : ∀ u ∈ en, ident u.name = true
  nodup : (en.map (·.name)).Nodup
  tags : ∀ u ∈ en, u.tags.length ≤ 30 ∧ (∀ s ∈ u.tags, PI.Tr.ident s = true) ∧ u.tags.Nodup

theorem distinct_ok {l : List Str} (h : distinct l = true) : l.length ≤ 30 ∧ (∀ s ∈ l, PI.Tr.ident s = true) ∧ l.Nodup := by
  unfold distinct at h
  simp only [Bool.and_eq_true, decide_eq_true_eq, List.all_eq_true] at h
  exact ⟨h.1.1, h.1.2, h.2⟩

theorem named_ok {en : List Enum} (h : named en = true) : Named en := by
  unfold named at h
  simp only [Bool.and_eq_true, List.all_eq_true] at h
  obtain ⟨h1, h2⟩ := h
  obtain ⟨k1, k2, k3⟩ := distinct_ok h2
  simp only [List.length_map, List.length_take] at k1
  have hlen : en.length ≤ 30 := by omega
  have htk : en.take 40 = en := List.take_of_length_le (by omega)
  rw [htk] at h1 k2 k3
  exact ⟨hlen, fun u hu => k2 _ (List.mem_map_of_mem hu), k3, fun u hu => distinct_ok (h1 u hu)⟩

theorem keyword_ident {s : Str} (h : s ∈ keywords) : PI.Tr.ident s = false := by
  unfold PI.Tr.ident
  have : keyword s = true := by unfold keyword; simpa using h
  simp [this]

theorem clean_bool : Clean [98, 111, 111, 108] := by refine ⟨by simp, by decide, by decide⟩
theorem clean_int : Clean [105, 110, 116] := by refine ⟨by simp, by decide, by decide⟩

theorem tyName_enum {en : List Enum} {t : Int} {w : Str} (h : tyName en t = some w) : (t = 1 ∧ w = [98, 111, 111, 108]) ∨ (t = 2 ∧ w = [105, 110, 116]) ∨ ∃ k : Nat, ∃ hk : k < en.length, t = k + 3 ∧ w = en[k].name := by
  unfold tyName at h
  split at h
  · rename_i e; simp at h; exact .inl ⟨e, h.symm⟩
  · split at h
    · rename_i e; simp at h; exact .inr (.inl ⟨e, h.symm⟩)
    · rcases ty_cases t with h3 | ⟨k, rfl⟩
      · rw [enumAt_lt h3] at h; simp at h
      · by_cases hk : k < en.length
        · rw [enumAt_in hk] at h
          simp at h
          exact .inr (.inr ⟨k, hk, rfl, h.symm⟩)
        · rw [enumAt_out (by omega)] at h; simp at h

theorem tyName_clean {en : List Enum} (hn : Named en) {t : Int} {w : Str} (h : tyName en t = some w) : Clean w := by
  rcases tyName_enum h with ⟨_, rfl⟩ | ⟨_, rfl⟩ | ⟨k, hk, _, rfl⟩
  · exact clean_bool
  · exact clean_int
  · exact ident_clean (hn.ident _ (List.getElem_mem hk))

theorem typeOf_tyName {en : List Enum} (hn : Named en) {t : Int} {w : Str} (h : tyName en t = some w) : typeOf en w = some t := by
  rcases tyName_enum h with ⟨rfl, rfl⟩ | ⟨rfl, rfl⟩ | ⟨k, hk, rfl, rfl⟩
  · simp [typeOf]
  · simp [typeOf]
  · have hid := hn.ident _ (List.getElem_mem hk)
    have n1 : en[k].name ≠ [98, 111, 111, 108] := by
      intro e; rw [e] at hid
      rw [keyword_ident (by decide)] at hid; simp at hid
    have n2 : en[k].name ≠ [105, 110, 116] := by
      intro e; rw [e] at hid
      rw [keyword_ident (by decide)] at hid; simp at hid
    have hf : en.findIdx? (fun u => decide (u.name = en[k].name)) = some k := by
      refine findIdx_at hk (by simp) ?_
      intro j hj
      have hd := hn.nodup
      unfold List.Nodup at hd
      rw [List.pairwise_iff_getElem] at hd
      have := hd j k (by simp; omega) (by simpa using hk) hj
      simpa using this
    unfold typeOf
    rw [if_neg n1, if_neg n2, hf]
    simp

theorem valText_ok {en : List Enum} {t v : Int} (hn : (tyName en t).isNone = false) (hh : tyHas en t v = true) : valText en t v = if t = 1 then (boolText (v == 1), 0) else if t = 2 then (Go.Lib.itoa v, 0) else (((enumAt en t).bind fun u => u.tags[v.toNat]?).getD [], 0) := by
  unfold valText
  rw [if_neg (by rw [hn]; simp), if_neg (by rw [hh]; simp)]

/-- A value's text is clean, no sign of an absent or undefined cell, and read back. -/
theorem val_round {en : List Enum} (hn : Named en) {t v : Int} (ht : (tyName en t).isNone = false) (hh : tyHas en t v = true) :
    Clean (valText en t v).1 ∧ (valText en t v).1 ≠ [45] ∧ (valText en t v).1 ≠ [63] ∧ valParse en t (valText en t v).1 = (v, 0) := by
  have hv := valText_ok ht hh
  obtain ⟨w, hw⟩ : ∃ w, tyName en t = some w := by
    cases hx : tyName en t with
    | none => rw [hx] at ht; simp at ht
    | some w => exact ⟨w, rfl⟩
  have ht' : ¬ (tyName en t).isNone = true := by rw [ht]; simp
  rcases tyName_enum hw with ⟨rfl, _⟩ | ⟨rfl, _⟩ | ⟨k, hk, rfl, _⟩
  · rw [if_pos rfl] at hv
    have hr : 0 ≤ v ∧ v < 2 := by simpa [tyHas, tySize] using hh
    have h0 : tyHas en 1 0 = true := by simp [tyHas, tySize]
    have h1 : tyHas en 1 1 = true := by simp [tyHas, tySize]
    have v0 := valText_ok ht h0
    have v1 := valText_ok ht h1
    rw [if_pos rfl] at v0 v1
    have hvp : ∀ s, valParse en 1 s = match (List.range 2).find? (fun v : Nat => decide ((valText en 1 v).2 = 0 ∧ (valText en 1 v).1 = s)) with | some v => ((v : Int), 0) | none => (0, 5) := by
      intro s; unfold valParse; rw [if_neg ht', if_neg (by decide)]; rfl
    have e2 : List.range 2 = [0, 1] := rfl
    rcases (show v = 0 ∨ v = 1 by omega) with rfl | rfl
    · rw [hv]
      refine ⟨⟨by decide, by decide, by decide⟩, by decide, by decide, ?_⟩
      rw [hvp, e2]
      have c0 : ((valText en 1 ((0 : Nat) : Int)).2 = 0 ∧ (valText en 1 ((0 : Nat) : Int)).1 = (boolText ((0 : Int) == 1), (0 : Int)).1) := by
        have : ((0 : Nat) : Int) = 0 := rfl
        rw [this, v0]; simp
      simp only [List.find?_cons, decide_eq_true c0]
      rfl
    · rw [hv]
      refine ⟨⟨by decide, by decide, by decide⟩, by decide, by decide, ?_⟩
      rw [hvp, e2]
      have c0 : ¬ ((valText en 1 ((0 : Nat) : Int)).2 = 0 ∧ (valText en 1 ((0 : Nat) : Int)).1 = (boolText ((1 : Int) == 1), (0 : Int)).1) := by
        have : ((0 : Nat) : Int) = 0 := rfl
        rw [this, v0]; decide
      have c1 : ((valText en 1 ((1 : Nat) : Int)).2 = 0 ∧ (valText en 1 ((1 : Nat) : Int)).1 = (boolText ((1 : Int) == 1), (0 : Int)).1) := by
        have : ((1 : Nat) : Int) = 1 := rfl
        rw [this, v1]; simp
      simp only [List.find?_cons, decide_eq_false c0, decide_eq_true c1]
      rfl
  · rw [if_neg (by decide), if_pos rfl] at hv
    have hr : -32768 ≤ v ∧ v ≤ 32767 := by simpa [tyHas] using hh
    rw [hv]
    have hc := itoa_clean v
    refine ⟨hc, ?_, ?_, ?_⟩
    · intro e
      have := atoi_itoa v hr.1 hr.2
      simp only at e
      rw [e] at this
      simp [Go.Lib.atoiAll, Go.Lib.parseMag] at this
    · intro e
      have := atoi_itoa v hr.1 hr.2
      simp only at e
      rw [e] at this
      simp [Go.Lib.atoiAll, Go.Lib.parseMag, Go.Lib.parseUint10] at this
    · unfold valParse
      rw [if_neg ht', if_pos rfl]
      simp only [intOf_itoa v hr.1 hr.2]
  · have n1 : ¬ (k : Int) + 3 = 1 := by omega
    have n2 : ¬ (k : Int) + 3 = 2 := by omega
    have hts := hn.tags _ (List.getElem_mem hk)
    have hsz : tySize en ((k : Int) + 3) = en[k].tags.length := by unfold tySize; rw [if_neg n1, if_neg n2, enumAt_in hk]; rfl
    have htx : ∀ u : Nat, u < en[k].tags.length → valText en ((k : Int) + 3) u = (en[k].tags.getD u [], 0) := by
      intro u hu
      have h1 : tyHas en ((k : Int) + 3) u = true := by unfold tyHas; rw [if_neg n2, hsz]; simp; omega
      rw [valText_ok ht h1, if_neg n1, if_neg n2, enumAt_in hk]
      simp [List.getD]
    obtain ⟨u, rfl⟩ : ∃ u : Nat, v = u := by
      unfold tyHas at hh
      rw [if_neg n2] at hh
      simp at hh
      exact ⟨v.toNat, by omega⟩
    have hu : u < en[k].tags.length := by
      unfold tyHas at hh
      rw [if_neg n2, hsz] at hh
      simp at hh
      omega
    rw [htx u hu]
    have hg : en[k].tags.getD u [] = en[k].tags[u] := by simp [List.getD, hu]
    simp only [hg]
    have hid := hts.2.1 _ (List.getElem_mem hu)
    refine ⟨ident_clean hid, ?_, ?_, ?_⟩
    · intro e; rw [e] at hid; revert hid; decide
    · intro e; rw [e] at hid; revert hid; decide
    · unfold valParse
      rw [if_neg ht', if_neg n2, hsz]
      have hf := find_range (n := en[k].tags.length) (p := fun v : Nat => decide ((valText en ((k : Int) + 3) v).2 = 0 ∧ (valText en ((k : Int) + 3) v).1 = en[k].tags[u])) hu (by simp only [htx u hu, hg]; simp) (by
        intro j hj
        have hjl : j < en[k].tags.length := by omega
        have hd := hts.2.2
        unfold List.Nodup at hd
        rw [List.pairwise_iff_getElem] at hd
        have := hd j u hjl hu hj
        simp [htx j hjl, List.getD, hjl, this])
      rw [hf]

theorem cell_round {en : List Enum} (hn : Named en) {t : Int} {c : Cell} (ht : (tyName en t).isNone = false) (hc : cellErr en t c = 0) : Clean (cellWord en t c) ∧ parseCell en t (cellWord en t c) = some c := by
  obtain ⟨k, v⟩ := c
  unfold cellErr at hc
  split at hc
  · simp at hc
  · rename_i h1
    simp only [not_or, not_and, Decidable.not_not] at h1
    by_cases k0 : k = 0
    · subst k0
      have hv : v = 0 := h1.1 (by simp)
      subst hv
      have e : cellWord en t ⟨0, 0⟩ = [45] := by simp [cellWord]
      rw [e]
      exact ⟨⟨by decide, by decide, by decide⟩, by simp [parseCell]⟩
    · by_cases k2 : k = 2
      · subst k2
        have hv : v = 0 := h1.1 (by simp)
        subst hv
        have e : cellWord en t ⟨2, 0⟩ = [63] := by simp [cellWord]
        rw [e]
        exact ⟨⟨by decide, by decide, by decide⟩, by simp [parseCell]⟩
      · have k1 : k = 1 := by
          by_cases e : k = 1
          · exact e
          · exact absurd (h1.2 k0 e) k2
        subst k1
        split at hc
        · simp at hc
        · rename_i h2
          have hh : tyHas en t v = true := by
            cases hx : tyHas en t v with
            | true => rfl
            | false => exact absurd ⟨rfl, hx⟩ h2
          obtain ⟨a1, a2, a3, a4⟩ := val_round hn ht hh
          have hw : cellWord en t ⟨1, v⟩ = (valText en t v).1 := by simp [cellWord]
          rw [hw]
          refine ⟨a1, ?_⟩
          unfold parseCell
          rw [if_neg a2, if_neg a3, a4]
          simp
end PI.Tr

namespace PI.Tr

structure Valid (en : List Enum) (t : Trace) : Prop where
  cols : t.cols.length ≤ 384
  rows : t.rows.length ≤ 4096
  col : ∀ k (hk : k < t.cols.length), PI.Tr.ident t.cols[k].name = true ∧ (tyName en t.cols[k].type).isNone = false ∧ t.cols[k].clock = [] ∧ t.cols[k].name ∉ names (t.cols.take k)
  row : ∀ r ∈ t.rows, r.length = t.cols.length ∧ ∀ k (hk : k < r.length) (hk' : k < t.cols.length), cellErr en t.cols[k].type r[k] = 0

theorem valid_of {en : List Enum} {t : Trace} (h : checkErr en t = 0) : Valid en t := by
  unfold checkErr at h
  split at h
  · simp at h
  · rename_i h1
    split at h
    · rename_i h2; exact absurd h h2
    · rename_i h2
      simp only [ne_eq, Decidable.not_not] at h2
      refine ⟨by omega, by omega, ?_, ?_⟩
      · intro k hk
        have := firstErr_zero h2 k hk
        unfold colErr at this
        rw [List.getElem?_eq_getElem hk] at this
        simp only at this
        cases hi : PI.Tr.ident t.cols[k].name with
        | false => rw [hi] at this; simp at this
        | true =>
          rw [hi, if_neg (by simp)] at this
          cases ht : (tyName en t.cols[k].type).isNone with
          | true => rw [ht] at this; simp at this
          | false =>
            rw [ht, if_neg (by simp)] at this
            by_cases hc : 0 < t.cols[k].clock.length
            · rw [if_pos hc] at this; simp at this
            · rw [if_neg hc] at this
              by_cases hm : t.cols[k].name ∈ names (t.cols.take k)
              · rw [if_pos hm] at this; simp at this
              · exact ⟨rfl, rfl, List.eq_nil_of_length_eq_zero (by omega), hm⟩
      · intro r hr
        obtain ⟨j, hj, rfl⟩ := List.mem_iff_getElem.1 hr
        have := firstErr_zero h j hj
        simp only [List.getD, List.getElem?_eq_getElem hj, Option.getD_some] at this
        unfold rowErr at this
        split at this
        · simp at this
        · rename_i h3
          refine ⟨by simpa using h3, ?_⟩
          intro k hk hk'
          have := firstErr_zero this k hk
          simpa [List.getD, hk, hk'] using this

theorem line_round {en : List Enum} (hn : Named en) {t : Trace} (hv : Valid en t) {r : Row} (hr : r ∈ t.rows) {rows : List Row} (hrows : rows.length < 4096) :
    (∀ w ∈ rowWords en t.cols r r.length, Clean w) ∧ lineErr en t.cols rows (rowWords en t.cols r r.length) = 0 ∧ lineCells en t.cols (rowWords en t.cols r r.length) (rowWords en t.cols r r.length).length = r := by
  obtain ⟨hl, hc⟩ := hv.row r hr
  have key : ∀ k (hk : k < r.length), Clean (cellWord en (t.cols.getD k default).type (r.getD k default)) ∧ cellAt en t.cols (rowWords en t.cols r r.length) k = some r[k] := by
    intro k hk
    have hk' : k < t.cols.length := by omega
    have := cell_round hn (hv.col k hk').2.1 (hc k hk hk')
    have e1 : t.cols.getD k default = t.cols[k] := by simp [List.getD, hk']
    have e2 : r.getD k default = r[k] := by simp [List.getD, hk]
    rw [e1, e2]
    refine ⟨this.1, ?_⟩
    unfold cellAt
    have e3 : (rowWords en t.cols r r.length).getD k [] = cellWord en t.cols[k].type r[k] := by
      simp [List.getD, rowWords, hk, hk']
    rw [e1, e3]
    exact this.2
  refine ⟨?_, ?_, ?_⟩
  · intro w hw
    unfold rowWords at hw
    simp only [List.mem_map, List.mem_range] at hw
    obtain ⟨k, hk, rfl⟩ := hw
    exact (key k hk).1
  · unfold lineErr
    rw [if_neg (by omega), if_neg (by simp; omega)]
    refine firstErr_no ?_
    intro k hk
    rw [rowWords_len] at hk
    rw [(key k hk).2]; simp
  · rw [rowWords_len]
    apply List.ext_getElem (by simp)
    intro k h1 h2
    simp only [lineCells, List.getElem_map, List.getElem_range]
    rw [(key k h2).2]; rfl

theorem rows_round {en : List Enum} (hn : Named en) {t : Trace} (hv : Valid en t) : ∀ (rs rows : List Row) (n : Nat), 3 ≤ n → (rows ++ rs).length ≤ 4096 → (∀ r ∈ rs, r ∈ t.rows) →
    parseL en (rs.map (fun r => Go.Lib.join (rowWords en t.cols r r.length) [32]) ++ [[]]) n t.cols rows = (⟨t.cols, rows ++ rs⟩, 0, 0)
  | [], rows, n, hn3, hl, hm => by
    simp only [List.map_nil, List.nil_append, parseL]
    rw [if_pos ⟨trivial, by omega⟩]; simp
  | r :: rs, rows, n, hn3, hl, hm => by
    obtain ⟨a1, a2, a3⟩ := line_round hn hv (hm r (by simp)) (rows := rows) (by simp at hl; omega)
    have ih := rows_round hn hv rs (rows ++ [r]) (n + 1) (by omega) (by simpa using hl) (fun x hx => hm x (List.mem_cons_of_mem _ hx))
    simp only [List.map_cons, List.cons_append]
    cases hx : rs.map (fun r => Go.Lib.join (rowWords en t.cols r r.length) [32]) ++ [[]] with
    | nil => simp at hx
    | cons x r' =>
      rw [hx] at ih
      simp only [parseL]
      rw [if_neg (by omega), if_neg (by omega), words_join _ a1, if_pos a2, a3, ih]
      simp

theorem parse_round {en : List Enum} (hn : Named en) {t : Trace} (h : checkErr en t = 0) : parse en (bodyText en t) = (t, 0, 0) ∧ (split 10 (bodyText en t)).length = t.rows.length + 3 := by
  have hv := valid_of h
  have hnc : ∀ w ∈ names t.cols, Clean w := by
    intro w hw
    obtain ⟨k, hk, rfl⟩ := List.mem_iff_getElem.1 hw
    have hk' : k < t.cols.length := by simpa using hk
    simp only [names, List.getElem_map]
    exact ident_clean (hv.col k hk').1
  have hty : ∀ k (hk : k < t.cols.length), ∃ w, tyName en t.cols[k].type = some w := by
    intro k hk
    have := (hv.col k hk).2.1
    cases hx : tyName en t.cols[k].type with
    | none => rw [hx] at this; simp at this
    | some w => exact ⟨w, rfl⟩
  have htc : ∀ w ∈ typeNames en t.cols, Clean w := by
    intro w hw
    obtain ⟨k, hk, rfl⟩ := List.mem_iff_getElem.1 hw
    have hk' : k < t.cols.length := by simpa using hk
    obtain ⟨w, hw⟩ := hty k hk'
    simp only [typeNames, List.getElem_map, hw, Option.getD_some]
    exact tyName_clean hn hw
  have hlines : bodyText en t = Go.Lib.join ((Go.Lib.join (names t.cols) [32] :: Go.Lib.join (typeNames en t.cols) [32] :: t.rows.map (fun r => Go.Lib.join (rowWords en t.cols r r.length) [32])) ++ [[]]) [10] := by
    rw [join_lines]
    unfold bodyText lineText
    simp [Function.comp_def]
  have hno : ∀ l ∈ (Go.Lib.join (names t.cols) [32] :: Go.Lib.join (typeNames en t.cols) [32] :: t.rows.map (fun r => Go.Lib.join (rowWords en t.cols r r.length) [32])) ++ [[]], (10 : UInt8) ∉ l := by
    intro l hl
    simp only [List.cons_append, List.mem_cons, List.mem_append, List.mem_map, List.not_mem_nil, or_false] at hl
    rcases hl with rfl | rfl | ⟨r, hr, rfl⟩ | rfl
    · exact join_no 10 32 (by decide) _ (fun w hw => (hnc w hw).2.2)
    · exact join_no 10 32 (by decide) _ (fun w hw => (htc w hw).2.2)
    · exact join_no 10 32 (by decide) _ (fun w hw => ((line_round hn hv hr (rows := []) (by simp)).1 w hw).2.2)
    · simp
  have hsp : split 10 (bodyText en t) = (Go.Lib.join (names t.cols) [32] :: Go.Lib.join (typeNames en t.cols) [32] :: t.rows.map (fun r => Go.Lib.join (rowWords en t.cols r r.length) [32])) ++ [[]] := by
    rw [hlines]; exact split_join 10 _ (by simp) hno
  refine ⟨?_, by rw [hsp]; simp⟩
  unfold parse
  rw [hsp]
  have hr := rows_round hn hv t.rows [] 3 (by omega) (by simpa using hv.rows) (fun r h => h)
  cases hx : t.rows.map (fun r => Go.Lib.join (rowWords en t.cols r r.length) [32]) ++ [[]] with
  | nil => simp at hx
  | cons x r' =>
    rw [hx] at hr
    simp only [List.cons_append, hx, parseL]
    rw [if_pos trivial, words_join _ hnc, words_join _ htc]
    have hne : namesErr (names t.cols) = 0 := by
      unfold namesErr
      rw [if_neg (by have := hv.cols; simp; omega)]
      refine firstErr_no ?_
      intro k hk
      have hk' : k < t.cols.length := by simpa using hk
      obtain ⟨c1, _, _, c4⟩ := hv.col k hk'
      have e1 : (names t.cols).getD k [] = t.cols[k].name := by simp [List.getD, names, hk']
      have e2 : (names t.cols).take k = names (t.cols.take k) := by simp [names, List.map_take]
      unfold nameErr
      rw [e1, e2, c1, if_neg (by simp), if_neg c4]
    rw [if_pos hne, if_neg (by omega), if_pos trivial]
    have hto : ∀ k (hk : k < t.cols.length), typeOf en ((typeNames en t.cols).getD k []) = some t.cols[k].type := by
      intro k hk
      obtain ⟨w, hw⟩ := hty k hk
      have e1 : (typeNames en t.cols).getD k [] = w := by simp [List.getD, typeNames, hk, hw]
      rw [e1]; exact typeOf_tyName hn hw
    have hte : typesErr en (typeNames en t.cols) ((names t.cols).map nameCol) = 0 := by
      unfold typesErr
      rw [if_neg (by simp)]
      refine firstErr_no ?_
      intro k hk
      rw [hto k (by simpa using hk)]; simp
    rw [if_pos hte]
    have htd : typed en (typeNames en t.cols) ((names t.cols).map nameCol) (typeNames en t.cols).length = t.cols := by
      apply List.ext_getElem?
      intro k
      by_cases hk : k < t.cols.length
      · rw [typed_at _ _ _ _ k (by simpa using hk), if_pos (by simpa using hk), hto k hk, List.getElem?_eq_getElem hk]
        have := (hv.col k hk).2.2.1
        simp only [names, nameCol, List.getElem_map, Option.getD_some, Option.some.injEq]
        cases hd : t.cols[k]
        rw [hd] at this
        simp at this
        simp [this]
      · rw [List.getElem?_eq_none (by simp; omega), List.getElem?_eq_none (by omega)]
    rw [htd, hr]
    simp
end PI.Tr

namespace PI.Tr
open Go (IntKind BinOp UnOp)

/-! ### The text's length -/

theorem dec_len : ∀ (k u : Nat), u < 10 ^ (k + 1) → (Go.Lib.decDigits u).length ≤ k + 1
  | 0, u, h => by
    rw [Go.Lib.decDigits, dif_pos (by simpa using h)]; simp
  | k + 1, u, h => by
    rw [Go.Lib.decDigits]
    split
    · simp
    · have := dec_len k (u / 10) (by rw [Nat.div_lt_iff_lt_mul (by decide)]; rw [Nat.pow_succ] at h; exact h)
      simp; omega
theorem join_len : ∀ (ws : List Str), (∀ w ∈ ws, w.length ≤ 40) → (Go.Lib.join ws [32]).length ≤ ws.length * 41
  | [], _ => by simp [Go.Lib.join_nil]
  | [w], h => by rw [Go.Lib.join_one]; have := h w (by simp); simp; omega
  | w :: x :: r, h => by
    rw [join_cons2]
    have h1 := h w (by simp)
    have h2 := join_len (x :: r) (fun y hy => h y (List.mem_cons_of_mem _ hy))
    simp only [List.length_append, List.length_cons] at h2 ⊢
    omega
theorem line_len (ws : List Str) (h : ∀ w ∈ ws, w.length ≤ 40) (hl : ws.length ≤ 384) : (lineText ws).length ≤ 15745 := by
  have := join_len ws h
  unfold lineText
  simp only [List.length_append, List.length_cons, List.length_nil]
  omega
theorem ident_len {w : Str} (h : PI.Tr.ident w = true) : w.length ≤ 40 := by
  unfold PI.Tr.ident at h
  simp only [Bool.and_eq_true, decide_eq_true_eq] at h
  exact h.1.1.1.2
theorem tyName_len {en : List Enum} (hn : Named en) {t : Int} {w : Str} (h : tyName en t = some w) : w.length ≤ 40 := by
  rcases tyName_enum h with ⟨_, rfl⟩ | ⟨_, rfl⟩ | ⟨k, hk, _, rfl⟩
  · simp
  · simp
  · exact ident_len (hn.ident _ (List.getElem_mem hk))
theorem cell_len {en : List Enum} (hn : Named en) {t : Int} {c : Cell} (ht : (tyName en t).isNone = false) (hc : cellErr en t c = 0) : (cellWord en t c).length ≤ 40 := by
  unfold cellWord
  split
  · simp
  · rename_i k0
    split
    · simp
    · rename_i k2
      unfold cellErr at hc
      split at hc
      · simp at hc
      · rename_i h1
        split at hc
        · simp at hc
        · rename_i h2
          simp only [not_or, not_and, Decidable.not_not] at h1
          have k1 : c.kind = 1 := by
            by_cases e : c.kind = 1
            · exact e
            · exact absurd (h1.2 k0 e) k2
          have hh : tyHas en t c.v = true := by
            cases hx : tyHas en t c.v with
            | true => rfl
            | false => exact absurd ⟨k1, hx⟩ h2
          rw [valText_ok ht hh]
          obtain ⟨w, hw⟩ : ∃ w, tyName en t = some w := by
            cases hx : tyName en t with
            | none => rw [hx] at ht; simp at ht
            | some w => exact ⟨w, rfl⟩
          rcases tyName_enum hw with ⟨rfl, _⟩ | ⟨rfl, _⟩ | ⟨k, hk, rfl, _⟩
          · rw [if_pos rfl]
            cases (c.v == 1) <;> simp [boolText]
          · rw [if_neg (by decide), if_pos rfl]
            have hr : -32768 ≤ c.v ∧ c.v ≤ 32767 := by simpa [tyHas] using hh
            simp only
            unfold Go.Lib.itoa
            split
            · have := dec_len 5 c.v.natAbs (by have : (10 : Nat) ^ (5 + 1) = 1000000 := by decide
                                               omega)
              simp; omega
            · have := dec_len 5 c.v.toNat (by have : (10 : Nat) ^ (5 + 1) = 1000000 := by decide
                                              omega)
              omega
          · rw [if_neg (by omega), if_neg (by omega), enumAt_in hk]
            simp only [Option.bind_some]
            cases hg : en[k].tags[c.v.toNat]? with
            | none => simp
            | some s => exact ident_len ((hn.tags _ (List.getElem_mem hk)).2.1 s (List.mem_of_getElem? hg))
theorem flat_len' : ∀ (l : List Str) (m : Nat), (∀ x ∈ l, x.length ≤ m) → l.flatten.length ≤ l.length * m
  | [], m, _ => by simp
  | x :: r, m, h => by
    have h1 := h x (by simp)
    have h2 := flat_len' r m (fun y hy => h y (List.mem_cons_of_mem _ hy))
    simp only [List.flatten_cons, List.length_append, List.length_cons, Nat.add_mul, Nat.one_mul]
    omega

theorem body_len {en : List Enum} (hn : Named en) {t : Trace} (h : checkErr en t = 0) : (bodyText en t).length ≤ 100000000 := by
  have hv := valid_of h
  have l1 := line_len (names t.cols) (by
    intro w hw
    obtain ⟨k, hk, rfl⟩ := List.mem_iff_getElem.1 hw
    have hk' : k < t.cols.length := by simpa using hk
    simp only [names, List.getElem_map]
    exact ident_len (hv.col k hk').1) (by simpa using hv.cols)
  have l2 := line_len (typeNames en t.cols) (by
    intro w hw
    obtain ⟨k, hk, rfl⟩ := List.mem_iff_getElem.1 hw
    have hk' : k < t.cols.length := by simpa using hk
    simp only [typeNames, List.getElem_map]
    cases hx : tyName en t.cols[k].type with
    | none => simp
    | some w => exact tyName_len hn hx) (by simpa using hv.cols)
  have l3 := flat_len' (t.rows.map fun r => lineText (rowWords en t.cols r r.length)) 15745 (by
    intro x hx
    simp only [List.mem_map] at hx
    obtain ⟨r, hr, rfl⟩ := hx
    obtain ⟨r1, r2⟩ := hv.row r hr
    refine line_len _ ?_ (by have := hv.cols; simp; omega)
    intro w hw
    unfold rowWords at hw
    simp only [List.mem_map, List.mem_range] at hw
    obtain ⟨k, hk, rfl⟩ := hw
    have hk' : k < t.cols.length := by omega
    have e1 : t.cols.getD k default = t.cols[k] := by simp [List.getD, hk']
    have e2 : r.getD k default = r[k] := by simp [List.getD, hk]
    rw [e1, e2]
    exact cell_len hn (hv.col k hk').2.1 (r2 k hk hk'))
  have := hv.rows
  unfold bodyText
  simp only [List.length_append, List.length_map] at l3 ⊢
  omega

section
variable {L : Nat → Option PFunc} (hL : ∀ k f, LD k = some f → L k = some f)
include hL

theorem trace_text_err (en : List Enum) (t : Trace) (hok : TrOK t) (hc : ¬ checkErr en t = 0) (o : Bool) (h : List PObj) : ∃ h', callL L 6 [.list o (en.map eEnum), eTrace t] h = some (.tuple [.str [], .int .i64 (checkErr en t)], h') := by
  have hLc : ∀ k f, Lc k = some f → L k = some f := fun k f hk => hL k f (LD_c k f hk)
  suffices H : ∃ r, callL L 6 [.list o (en.map eEnum), eTrace t] h = some r ∧ r.1 = .tuple [.str [], .int .i64 (checkErr en t)] by
    obtain ⟨⟨v, h'⟩, h1, h2⟩ := H
    exact ⟨h', by rw [h1]; simp at h2; rw [h2]⟩
  refine callL_wpP (hL 6 _ rfl) rfl ?_
  obtain ⟨h', hck⟩ := trace_check hLc en t hok false []
  generalize checkErr en t = e at *
  simp [f_trace_Text, hck, hc, endP]

theorem law_round (en : List Enum) (hen : EOK en) (t : Trace) (hok : TrOK t) (hln : Lens t) (o : Bool) (h : List PObj) : callL L 0 [.list o (en.map eEnum), eTrace t] h = some (.bool true, h) := by
  have hLc : ∀ k f, Lc k = some f → L k = some f := fun k f hk => hL k f (LD_c k f hk)
  have haw := law_awake hLc []
  have hlt := law_light hLc t hln.row hok.cols.1 hok.rows []
  have hnm := law_named hL en false []
  refine callL_wp (hL 0 _ rfl) rfl ?_
  cases hlight : light t with
  | false =>
    rw [hlight] at hlt
    simp [f_law43_TraceRound, hlt, haw]
  | true =>
    rw [hlight] at hlt
    cases hnamed : named en with
    | false =>
      rw [hnamed] at hnm
      simp [f_law43_TraceRound, hlt, hnm, haw]
    | true =>
      rw [hnamed] at hnm
      obtain ⟨h4, hck⟩ := trace_check hLc en t hok false []
      by_cases hc : checkErr en t = 0
      · have hn := named_ok hnamed
        have hbl := body_len hn hc
        obtain ⟨p1, p2⟩ := parse_round hn hc
        obtain ⟨h3, htx⟩ := trace_text hLc en t hok (by omega) false []
        have htt : textOf en t = (bodyText en t, 0) := by unfold textOf; rw [if_pos hc]
        rw [htt] at htx
        have hv := valid_of hc
        have hb2 : (bodyText en t).length ≤ 2147482000 := by omega
        obtain ⟨h5, hp⟩ := trace_parse hLc en hen (bodyText en t) hb2 false []
        rw [p1] at hp
        have hsm := ref_same hLc t t hln []
        have hli := ref_lines hLc (bodyText en t) (by omega) []
        have hrl := hv.rows
        have hw : IntKind.i64.wrap ((t.rows.length : Int) + 3) = (t.rows.length : Int) + 3 := by rw [wrap_i64] <;> omega
        generalize bodyText en t = s at *
        generalize split 10 s = ls at *
        have hls : (ls.length : Int) = (t.rows.length : Int) + 3 := by omega
        simp at htx hp hsm
        simp [f_law43_TraceRound, hlt, hnm, htx, hp, hsm, hli, hls, hw, haw]
      · obtain ⟨h3, htx⟩ := trace_text_err hL en t hok hc false []
        generalize checkErr en t = e at *
        simp [f_law43_TraceRound, hlt, hnm, htx, hck, hc, haw]
end
end PI.Tr
set_option maxRecDepth 100000
set_option linter.unusedSimpArgs false
set_option linter.unusedVariables false
namespace PI.Tr
open Go (IntKind BinOp UnOp)

section
variable {L : Nat → Option PFunc} (hL : ∀ k f, LZ k = some f → L k = some f)
include hL

theorem ref_known (en : List Enum) (t : Int) (ht : I64 t) (o : Bool) (h : List PObj) : callL L 77 [.list o (en.map eEnum), .int .i64 t] h = some (.bool (tyName en t).isSome, h) := by
  refine callL_wp (hL 77 _ rfl) rfl ?_
  by_cases h1 : t = 1
  · subst h1; simp [f_ref05_known, tyName]
  · by_cases h2 : t = 2
    · subst h2; simp [f_ref05_known, tyName]
    · rcases ty_cases t with h3 | ⟨k, rfl⟩
      · have h3' : ¬ 3 ≤ t := by omega
        simp [f_ref05_known, tyName, h1, h2, h3', enumAt_lt h3]
      · have hw : IntKind.i64.wrap (k : Int) = k := by rw [wrap_i64] <;> omega
        have h3 : (3 : Int) ≤ (k : Int) + 3 := by omega
        by_cases hk : k < en.length
        · simp [f_ref05_known, tyName, h1, h2, h3, hw, hk, enumAt_in hk]
        · have hk2 : ¬ (k : Int) < en.length := by omega
          simp [f_ref05_known, tyName, h1, h2, h3, hw, hk, hk2, enumAt_out (show en.length ≤ k by omega)]

theorem ref_size (en : List Enum) (t : Int) (ht : I64 t) (o : Bool) (h : List PObj) : callL L 81 [.list o (en.map eEnum), .int .i64 t] h = some (.int .i64 (tySize en t), h) := by
  refine callL_wp (hL 81 _ rfl) rfl ?_
  by_cases h1 : t = 1
  · subst h1; simp [f_ref05_Size, tySize]
  · by_cases h2 : t = 2
    · subst h2; simp [f_ref05_Size, tySize]
    · rcases ty_cases t with h3 | ⟨k, rfl⟩
      · simp [f_ref05_Size, tySize, h1, h2, h3, enumAt_lt h3]
      · have hw : IntKind.i64.wrap (k : Int) = k := by rw [wrap_i64] <;> omega
        have h3 : ¬ (k : Int) + 3 < 3 := by omega
        by_cases hk : k < en.length
        · have hk2 : ¬ (en.length : Int) ≤ k := by omega
          simp [f_ref05_Size, tySize, h1, h2, h3, hw, hk, hk2, enumAt_in hk]
        · have hk2 : (en.length : Int) ≤ k := by omega
          simp [f_ref05_Size, tySize, h1, h2, h3, hw, hk, hk2, enumAt_out (show en.length ≤ k by omega)]

theorem ref_has (en : List Enum) (t v : Int) (ht : I64 t) (o : Bool) (h : List PObj) : callL L 78 [.list o (en.map eEnum), .int .i64 t, .int .i64 v] h = some (.bool (tyHas en t v), h) := by
  refine callL_wp (hL 78 _ rfl) rfl ?_
  have hsz := ref_size hL en t ht false []
  by_cases h2 : t = 2
  · subst h2
    by_cases a1 : -32768 ≤ v <;> by_cases a2 : v ≤ 32767 <;> simp [f_ref05_Has, tyHas, a1, a2]
  · by_cases h0 : 0 ≤ v
    · simp [f_ref05_Has, tyHas, h2, h0, hsz]
    · simp [f_ref05_Has, tyHas, h2, h0]

theorem ref_name (en : List Enum) (t : Int) (ht : I64 t) (o : Bool) (h : List PObj) : callL L 68 [.list o (en.map eEnum), .int .i64 t] h = some (.tuple [.str ((tyName en t).getD []), .bool (tyName en t).isSome], h) := by
  refine callL_wp (hL 68 _ rfl) rfl ?_
  have hkn := ref_known hL en t ht false []
  by_cases h1 : t = 1
  · subst h1; simp [f_ref05_Name, tyName, hkn]
  · by_cases h2 : t = 2
    · subst h2; simp [f_ref05_Name, tyName, hkn]
    · rcases ty_cases t with h3 | ⟨k, rfl⟩
      · simp [f_ref05_Name, tyName, h1, h2, hkn, enumAt_lt h3]
      · have hw : IntKind.i64.wrap (k : Int) = k := by rw [wrap_i64] <;> omega
        by_cases hk : k < en.length
        · simp [f_ref05_Name, tyName, h1, h2, hkn, hw, hk, enumAt_in hk]
        · simp [f_ref05_Name, tyName, h1, h2, hkn, hw, hk, enumAt_out (show en.length ≤ k by omega)]

theorem ref_type (en : List Enum) (hen : EOK en) (s : Str) (o : Bool) (h : List PObj) : callL L 75 [.list o (en.map eEnum), .str s] h = some (.tuple [.int .i64 ((typeOf en s).getD 0), .bool (typeOf en s).isSome], h) := by
  refine callL_wp (hL 75 _ rfl) rfl ?_
  by_cases h1 : s = [98, 111, 111, 108]
  · subst h1; simp [f_ref05_Type, typeOf]
  · by_cases h2 : s = [105, 110, 116]
    · subst h2; simp [f_ref05_Type, typeOf]
    · have hl := hen.len
      have ht : typeOf en s = (en.findIdx? fun u => u.name = s).map fun i => (i : Int) + 3 := by simp [typeOf, h1, h2]
      generalize typeOf en s = T at ht ⊢
      simp [f_ref05_Type, h1, h2]
      refine loop_upd en.length (fun i => decide ((en.getD i default).name ≠ s)) (fun i (x : Unit) => [(4, .int .i64 i)]) (fun _ _ => h) () ?_ ?_ ?_ rfl rfl
      · intro i hi hz x ih
        have hw := wrap_succ i (by omega)
        simp [List.getD, hi] at hz
        simp [hi, hz, hw]
        simpa using ih ()
      · intro i hi hz hk x
        simp [List.getD, hi] at hz
        have hf := findIdx_at (p := fun u : Enum => decide (u.name = s)) hi (by simpa using hz) (fun k hk' => by have := hk k hk'; have hk2 : k < en.length := (by omega); simpa [List.getD, hk2] using this)
        rw [hf] at ht
        have hw : IntKind.i64.wrap (3 + (i : Int)) = (i : Int) + 3 := by rw [wrap_i64] <;> omega
        simp [hi, hz, hw, ht]
      · intro hz x
        have hf := findIdx_no (l := en) (p := fun u : Enum => decide (u.name = s)) (fun k hk => by have := hz k hk; simpa [List.getD, hk] using this)
        rw [hf] at ht
        simp [ht]

end
end PI.Tr
set_option maxRecDepth 100000
set_option linter.unusedSimpArgs false
set_option linter.unusedVariables false
namespace PI.Tr
open Go (IntKind BinOp UnOp)

def isDig (b : UInt8) : Bool := decide (48 ≤ b.toNat ∧ b.toNat ≤ 57)
def digsVal (l : Str) : Nat := l.foldl (fun n b => 10 * n + (b.toNat - 48)) 0
theorem digsVal_snoc (l : Str) (b : UInt8) : digsVal (l ++ [b]) = 10 * digsVal l + (b.toNat - 48) := by simp [digsVal]
theorem digsVal_dec : ∀ u, digsVal (Go.Lib.decDigits u) = u := by
  intro u
  induction u using Nat.strongRecOn with
  | _ u ih =>
    rw [Go.Lib.decDigits]
    split
    · rename_i h
      have hd := dig_nat u h
      have : digsVal [UInt8.ofNat (48 + u)] = (UInt8.ofNat (48 + u)).toNat - 48 := by simp [digsVal]
      rw [this, hd]; omega
    · rename_i h
      have hd := dig_nat (u % 10) (by omega)
      rw [digsVal_snoc, ih (u / 10) (by omega), hd]; omega
theorem digsVal_lt (l : Str) : ∀ k, l.length ≤ k → (∀ b ∈ l, isDig b = true) → digsVal l < 10 ^ k := by
  intro k
  induction k generalizing l with
  | zero =>
    intro hl _
    have : l = [] := List.eq_nil_of_length_eq_zero (by omega)
    subst this; decide
  | succ k ih =>
    intro hl hd
    rcases List.eq_nil_or_concat l with rfl | ⟨r, b, rfl⟩
    · exact Nat.pow_pos (by decide)
    · rw [List.concat_eq_append] at hl hd ⊢
      rw [digsVal_snoc]
      have h1 := ih r (by simp at hl; omega) (fun x hx => hd x (by simp [hx]))
      have h2 := hd b (by simp)
      simp only [isDig, decide_eq_true_eq] at h2
      rw [Nat.pow_succ]; omega

theorem digsVal_le (l : Str) : ∀ k, l.length ≤ k → digsVal l + 23 ≤ 23 * 10 ^ k := by
  intro k
  induction k generalizing l with
  | zero =>
    intro hl
    have : l = [] := List.eq_nil_of_length_eq_zero (by omega)
    subst this; decide
  | succ k ih =>
    intro hl
    rcases List.eq_nil_or_concat l with rfl | ⟨r, b, rfl⟩
    · have : 0 < 10 ^ (k + 1) := Nat.pow_pos (by decide)
      have e : digsVal [] = 0 := rfl
      omega
    · rw [List.concat_eq_append] at hl ⊢
      rw [digsVal_snoc]
      have h1 := ih r (by simp at hl; omega)
      have h2 : b.toNat < 256 := b.toNat_lt
      rw [Nat.pow_succ]; omega

theorem intOf_iff (s : Str) (m : Int) : intOf s = some m ↔ -32768 ≤ m ∧ m ≤ 32767 ∧ Go.Lib.itoa m = s := by
  constructor
  · intro h
    unfold intOf at h
    split at h
    · split at h
      · rename_i hc
        simp at h; subst h; exact hc
      · simp at h
    · simp at h
  · rintro ⟨h1, h2, rfl⟩
    exact intOf_itoa m h1 h2

theorem dec_dig (u : Nat) : ∀ b ∈ Go.Lib.decDigits u, isDig b = true := fun b hb => by
  have := dec_digits u b hb
  simp [isDig, this]

/-- A text that has no sign. -/
theorem intOf_pos {s : Str} {m : Int} (h : intOf s = some m) (hs : s.headD 0 ≠ 45) : s ≠ [] ∧ s.length ≤ 5 ∧ (∀ b ∈ s, isDig b = true) ∧ (digsVal s : Int) = m := by
  obtain ⟨h1, h2, h3⟩ := (intOf_iff s m).1 h
  unfold Go.Lib.itoa at h3
  split at h3
  · subst h3; simp at hs
  · subst h3
    refine ⟨dec_ne _, dec_len 4 _ (by omega), dec_dig _, ?_⟩
    rw [digsVal_dec]; omega
/-- A text that has one. -/
theorem intOf_neg {d : Str} {m : Int} (h : intOf (45 :: d) = some m) : d ≠ [] ∧ d.length ≤ 5 ∧ (∀ b ∈ d, isDig b = true) ∧ -(digsVal d : Int) = m := by
  obtain ⟨h1, h2, h3⟩ := (intOf_iff _ m).1 h
  unfold Go.Lib.itoa at h3
  split at h3
  · rename_i hm
    simp only [List.cons.injEq, true_and] at h3
    subst h3
    refine ⟨dec_ne _, dec_len 4 _ (by omega), dec_dig _, ?_⟩
    rw [digsVal_dec]; omega
  · exfalso
    have := dec_digits m.toNat 45 (by rw [h3]; simp)
    have e : (45 : UInt8).toNat = 45 := rfl
    omega

theorem wrap_u8 (n : Int) (h1 : 0 ≤ n) (h2 : n < 256) : IntKind.u8.wrap n = n := by
  show (if (false && decide (n % 256 ≥ 128)) = true then n % 256 - 256 else n % 256) = _
  simp only [Bool.false_and, Bool.false_eq_true, if_false]
  omega

section
variable {L : Nat → Option PFunc} (hL : ∀ k f, LZ k = some f → L k = some f)
include hL

theorem ref_dec : ∀ (u : Nat), u < 1000000 → ∀ h, callL L 79 [.int .i64 u] h = some (.str (Go.Lib.decDigits u), h) := by
  intro u
  induction u using Nat.strongRecOn with
  | _ u ih =>
    intro hu h
    refine callL_wp (hL 79 _ rfl) rfl ?_
    rw [Go.Lib.decDigits]
    have n0 : ¬ (u : Int) < 0 := by omega
    by_cases h10 : u < 10
    · have h10' : (u : Int) < 10 := by omega
      have hw : IntKind.i64.wrap (48 + (u : Int)) = 48 + u := by rw [wrap_i64] <;> omega
      have hw2 : IntKind.u8.wrap (48 + (u : Int)) = 48 + u := by rw [wrap_u8] <;> omega
      have c1 : (0 : Int) ≤ 48 + (u : Int) ∧ 48 + (u : Int) < 256 := by omega
      have c2 : (48 + (u : Int)).toNat = 48 + u := by omega
      simp [f_ref05_Decimal, n0, h10, h10', hw, hw2, bytesOf, c1, c2]
    · have h10' : ¬ (u : Int) < 10 := by omega
      have hrec := ih (u / 10) (by omega) (by omega) []
      have hl := dec_len 5 (u / 10) (by omega)
      have hl2 : (Go.Lib.decDigits (u / 10)).length ≤ 4611686018427387903 := by omega
      have hq : (u : Int).tdiv 10 = ((u / 10 : Nat) : Int) := rfl
      have hr : (u : Int).tmod 10 = ((u % 10 : Nat) : Int) := rfl
      have hwq : IntKind.i64.wrap ((u / 10 : Nat) : Int) = ((u / 10 : Nat) : Int) := by rw [wrap_i64] <;> omega
      generalize hm : u % 10 = m at hr ⊢
      generalize u / 10 = q at *
      have hw : IntKind.i64.wrap (48 + (m : Int)) = 48 + m := by rw [wrap_i64] <;> omega
      have hw2 : IntKind.u8.wrap (48 + (m : Int)) = 48 + m := by rw [wrap_u8] <;> omega
      have c1 : (0 : Int) ≤ 48 + (m : Int) ∧ 48 + (m : Int) < 256 := by omega
      have c2 : (48 + (m : Int)).toNat = 48 + m := by omega
      simp [f_ref05_Decimal, n0, h10, h10', hq, hr, hwq, hrec, hw, hw2, bytesOf, c1, c2, hl2]

theorem ref_decimal (v : Int) (h1 : -32768 ≤ v) (h2 : v ≤ 32767) (h : List PObj) : callL L 79 [.int .i64 v] h = some (.str (Go.Lib.itoa v), h) := by
  by_cases hv : v < 0
  · refine callL_wp (hL 79 _ rfl) rfl ?_
    have hrec := ref_dec hL v.natAbs (by omega) []
    have hw : IntKind.i64.wrap (-v) = (v.natAbs : Int) := by rw [wrap_i64] <;> omega
    have hl := dec_len 5 v.natAbs (by omega)
    have hl2 : 1 + (Go.Lib.decDigits v.natAbs).length ≤ 4611686018427387904 := by omega
    have hi : Go.Lib.itoa v = 45 :: Go.Lib.decDigits v.natAbs := if_pos hv
    rw [hi]
    generalize v.natAbs = u at *
    simp [f_ref05_Decimal, hv, hw, hrec, hl2]
  · have := ref_dec hL v.toNat (by omega) h
    rw [show ((v.toNat : Nat) : Int) = v by omega] at this
    rw [this]
    have hi : Go.Lib.itoa v = Go.Lib.decDigits v.toNat := if_neg hv
    rw [hi]

theorem number_loop (s : Str) (f : Nat) (hf : f ≤ s.length) (hs : s.length ≤ 6) (g : Nat) (h : List PObj) {Q : PExit → St → Prop}
    (h0 : (∀ b ∈ s.drop f, isDig b = true) → Q (.exit 0) ⟨[.str s, .int .i64 0, .bool false, .int .i64 (digsVal (s.drop f)), .int .i64 f, .int .i64 s.length], [], g, h⟩)
    (h1 : (¬ ∀ b ∈ s.drop f, isDig b = true) → ∀ y3 y5, Q .ret ⟨[.str s, .int .i64 0, .bool false, y3, .int .i64 f, y5], [], g, h⟩) :
    wpL L f_ref05_number_l0 ⟨[.str s, .int .i64 0, .bool false, .int .i64 0, .int .i64 f, .int .i64 f], [], g, h⟩ Q := by
  have _ := hL
  obtain ⟨d, hd⟩ : ∃ d, d = s.drop f := ⟨_, rfl⟩
  rw [← hd] at h0 h1
  have hdl : d.length = s.length - f := by rw [hd]; simp
  have hat : ∀ i (hi : i < d.length) (hi2 : f + i < s.length), s[f + i] = d[i] := by
    intro i hi hi2
    simp [hd]
  refine loop_upd d.length (fun i => isDig (d.getD i 0)) (fun i (x : Unit) => [(3, .int .i64 (digsVal (d.take i))), (5, .int .i64 ((f + i : Nat) : Int))]) (fun _ _ => h) () ?_ ?_ ?_ (by simp [digsVal]) rfl
  · intro i hi hz x ih
    have hi1 : f + i < s.length := by omega
    have hi2 := hat i hi hi1
    have hw := wrap_succ (f + i) (by omega)
    simp only [List.getD, List.getElem?_eq_getElem hi, Option.getD_some] at hz
    have hts : digsVal (d.take (i + 1)) = 10 * digsVal (d.take i) + (d[i].toNat - 48) := by rw [take_succ' hi, digsVal_snoc]
    have hbd := digsVal_le (d.take i) 6 (by simp; omega)
    have := ih ()
    rw [hts] at this
    simp only [isDig, decide_eq_true_eq] at hz
    generalize digsVal (d.take i) = n at *
    have q1 : ¬ (d[i].toNat : Int) < 48 := by omega
    have q2 : ¬ (57 : Int) < (d[i].toNat : Int) := by omega
    have w1 : IntKind.i64.wrap (10 * (n : Int)) = 10 * n := by rw [wrap_i64] <;> omega
    have w2 : IntKind.i64.wrap (d[i].toNat : Int) = d[i].toNat := by rw [wrap_i64] <;> omega
    have w3 : IntKind.i64.wrap (10 * (n : Int) + d[i].toNat) = 10 * n + d[i].toNat := by rw [wrap_i64] <;> omega
    have w4 : IntKind.i64.wrap (10 * (n : Int) + d[i].toNat - 48) = ((10 * n + (d[i].toNat - 48) : Nat) : Int) := by rw [wrap_i64] <;> omega
    have hw' : IntKind.i64.wrap ((f : Int) + (i : Int) + 1) = (f : Int) + i + 1 := by rw [wrap_i64] <;> omega
    have hi3 : (f : Int) + (i : Int) < s.length := by omega
    have hi4 : ((f : Int) + (i : Int)).toNat = f + i := by omega
    have hi5 : (0 : Int) ≤ (f : Int) + (i : Int) := by omega
    simp [hi1, hi2, hi3, hi4, hi5, q1, q2, w1, w2, w3, w4, hw']
    simpa [Int.add_assoc] using this
  · intro i hi hz hk x
    have hi1 : f + i < s.length := by omega
    have hi2 := hat i hi hi1
    simp only [List.getD, List.getElem?_eq_getElem hi, Option.getD_some] at hz
    have hne : ¬ ∀ b ∈ d, isDig b = true := fun ha => by
      have := ha _ (List.getElem_mem hi)
      rw [this] at hz; simp at hz
    have hi3 : (f : Int) + (i : Int) < s.length := by omega
    have hi4 : ((f : Int) + (i : Int)).toNat = f + i := by omega
    have hi5 : (0 : Int) ≤ (f : Int) + (i : Int) := by omega
    simp only [isDig, decide_eq_false_iff_not] at hz
    by_cases q1 : (d[i].toNat : Int) < 48
    · simp [hi1, hi2, hi3, hi4, hi5, q1]
      exact h1 hne _ _
    · have q2 : (57 : Int) < (d[i].toNat : Int) := by omega
      simp [hi1, hi2, hi3, hi4, hi5, q1, q2]
      exact h1 hne _ _
  · intro hz x
    have hall : ∀ b ∈ d, isDig b = true := by
      intro b hb
      obtain ⟨k, hk, rfl⟩ := List.mem_iff_getElem.1 hb
      have := hz k hk
      simpa [List.getD, hk] using this
    have hfl : f + d.length = s.length := by omega
    have hfl' : (f : Int) + d.length = s.length := by omega
    have := h0 hall
    simp [hfl, hfl']
    exact this

theorem ref_number (s : Str) (hs : s.length ≤ 281474976710656) (h : List PObj) : ∃ k, callL L 82 [.str s] h = some (.tuple [.int .i64 k, .bool (intOf s).isSome], h) ∧ ∀ m, intOf s = some m → k = m := by
  suffices H : ∃ r, callL L 82 [.str s] h = some r ∧ ∃ k, r = (.tuple [.int .i64 k, .bool (intOf s).isSome], h) ∧ ∀ m, intOf s = some m → k = m by
    obtain ⟨r, h1, k, rfl, h2⟩ := H
    exact ⟨k, h1, h2⟩
  refine callL_wpP (hL 82 _ rfl) rfl ?_
  have dec := fun v h1 h2 => ref_decimal hL v h1 h2 []
  have fin : ∀ N : Int, (∀ m, intOf s = some m → N = m) → (intOf s).isSome = decide (-32768 ≤ N ∧ N ≤ 32767 ∧ Go.Lib.itoa N = s) := by
    intro N hN
    rw [Bool.eq_iff_iff, decide_eq_true_eq]
    constructor
    · intro hc
      obtain ⟨m, hm⟩ := Option.isSome_iff_exists.1 hc
      have := hN m hm
      subst this
      exact (intOf_iff s N).1 hm
    · intro hc; rw [(intOf_iff s N).2 hc]; rfl
  by_cases h45 : s.headD 0 = 45
  · obtain ⟨d, rfl⟩ : ∃ d, s = 45 :: d := by
      cases s with
      | nil => simp at h45
      | cons c r => simp at h45; subst h45; exact ⟨r, rfl⟩
    by_cases hd0 : d = []
    · subst hd0
      have hn : intOf [45] = none := by
        cases hx : intOf [45] with
        | none => rfl
        | some m => exact absurd rfl (intOf_neg hx).1
      rw [hn]
      simp [f_ref05_number, endP]
    · have hd1 : ¬ d.length = 0 := fun e => hd0 (List.eq_nil_of_length_eq_zero e)
      by_cases hlen : d.length ≤ 5
      · have hlen1 : ¬ (6 : Int) < (d.length : Int) + 1 := by omega
        have hlen2 : ¬ (d.length : Int) + 1 = 1 := by omega
        have hlen3 : (0 : Int) < (d.length : Int) + 1 := by omega
        simp [f_ref05_number, hlen1, hlen2, hlen3, hd0]
        refine number_loop hL (45 :: d) 1 (by simp) (by simp; omega) _ _ ?_ ?_
        · intro hall
          have hall' : ∀ b ∈ d, isDig b = true := by simpa using hall
          have hb := digsVal_lt d 5 hlen hall'
          have hdr : (45 :: d).drop 1 = d := rfl
          rw [hdr]
          obtain ⟨N, hN⟩ : ∃ N : Int, N = -(digsVal d : Int) := ⟨_, rfl⟩
          have hw : IntKind.i64.wrap (-(digsVal d : Int)) = N := by rw [wrap_i64] <;> omega
          have hm : ∀ m, intOf (45 :: d) = some m → N = m := fun m hm => by
            have := (intOf_neg hm).2.2.2
            omega
          rw [fin N hm]
          generalize digsVal d = D at hw
          by_cases r1 : -32768 ≤ N
          · by_cases r2 : N ≤ 32767
            · have hd := dec N r1 r2
              simp [hw, r1, r2, hd, endP]
              exact ⟨N, ⟨rfl, by rw [Bool.eq_iff_iff]; simp⟩, hm⟩
            · simp [hw, r1, r2, endP]
              exact hm
          · simp [hw, r1, endP]
            exact hm
        · intro hne y3 y5
          have hn : intOf (45 :: d) = none := by
            cases hx : intOf (45 :: d) with
            | none => rfl
            | some m => exact absurd (by simpa using (intOf_neg hx).2.2.1) hne
          rw [hn]
          simp [endP]
      · have hlen1 : (6 : Int) < (d.length : Int) + 1 := by omega
        have hlen2 : ¬ (d.length : Int) + 1 = 1 := by omega
        have hlen3 : (0 : Int) < (d.length : Int) + 1 := by omega
        have hn : intOf (45 :: d) = none := by
          cases hx : intOf (45 :: d) with
          | none => rfl
          | some m => exact absurd (intOf_neg hx).2.1 hlen
        rw [hn]
        simp [f_ref05_number, hlen1, hlen2, hlen3, hd0, endP]
  · by_cases hd0 : s = []
    · subst hd0
      have hn : intOf [] = none := by
        cases hx : intOf [] with
        | none => rfl
        | some m => exact absurd rfl (intOf_pos hx (by decide)).1
      rw [hn]
      simp [f_ref05_number, endP]
    · have hd1 : 0 < s.length := List.length_pos_iff.2 hd0
      obtain ⟨c, r, hcr⟩ : ∃ c r, s = c :: r := by
        cases s with
        | nil => exact absurd rfl hd0
        | cons c r => exact ⟨c, r, rfl⟩
      have hs0 : s[0] = c := by simp [hcr]
      have hc45 : ¬ (c.toNat : Int) = 45 := by
        intro e
        apply h45
        rw [hcr]
        exact UInt8.toNat_inj.1 (by show c.toNat = 45; omega)
      have hlen3 : (0 : Int) < (s.length : Int) := by omega
      have hlen2 : ¬ (s.length : Int) = 0 := by omega
      by_cases hlen : s.length ≤ 6
      · have hlen1 : ¬ (6 : Int) < (s.length : Int) := by omega
        simp [f_ref05_number, hlen1, hlen2, hlen3, hd0, hd1, hs0, hc45]
        refine number_loop hL s 0 (by omega) hlen _ _ ?_ ?_
        · intro hall
          rw [List.drop_zero] at hall ⊢
          have hb := digsVal_lt s 6 hlen hall
          obtain ⟨N, hN⟩ : ∃ N : Int, N = (digsVal s : Int) := ⟨_, rfl⟩
          have hm : ∀ m, intOf s = some m → N = m := fun m hm => by
            have := (intOf_pos hm h45).2.2.2
            omega
          rw [fin N hm, ← hN]
          by_cases r1 : -32768 ≤ N
          · by_cases r2 : N ≤ 32767
            · have hd := dec N r1 r2
              simp [r1, r2, hd, endP]
              exact ⟨N, ⟨rfl, by rw [Bool.eq_iff_iff]; simp⟩, hm⟩
            · simp [r1, r2, endP]
              exact hm
          · omega
        · intro hne y3 y5
          rw [List.drop_zero] at hne
          have hn : intOf s = none := by
            cases hx : intOf s with
            | none => rfl
            | some m => exact absurd (intOf_pos hx h45).2.2.1 hne
          rw [hn]
          simp [endP]
      · have hlen1 : (6 : Int) < (s.length : Int) := by omega
        have hn : intOf s = none := by
          cases hx : intOf s with
          | none => rfl
          | some m => exact absurd (intOf_pos hx h45).2.1 (by omega)
        rw [hn]
        simp [f_ref05_number, hlen1, hlen2, hlen3, hd0, hd1, hs0, hc45, endP]

theorem ref_valText (en : List Enum) (t v : Int) (ht : I64 t) (hv : I64 v) (o : Bool) (h : List PObj) : callL L 70 [.list o (en.map eEnum), .int .i64 t, .int .i64 v] h = some (.tuple [.str (valText en t v).1, .int .i64 (valText en t v).2], h) := by
  refine callL_wp (hL 70 _ rfl) rfl ?_
  have h1 := ref_known hL en t ht false []
  have h2 := ref_has hL en t v ht false []
  unfold valText
  cases hn : tyName en t with
  | none => simp [f_ref05_Text, h1, hn]
  | some nm =>
    cases hh : tyHas en t v with
    | false => simp [f_ref05_Text, h1, h2, hn, hh]
    | true =>
      by_cases e1 : t = 1
      · subst e1
        by_cases v1 : v = 1
        · subst v1; simp [f_ref05_Text, h1, h2, hn, hh, boolText]
        · simp [f_ref05_Text, h1, h2, hn, hh, v1, boolText]
      · by_cases e2 : t = 2
        · subst e2
          have hr : -32768 ≤ v ∧ v ≤ 32767 := by simpa [tyHas] using hh
          have hd := ref_decimal hL v hr.1 hr.2 []
          simp [f_ref05_Text, h1, h2, hn, hh, hd]
        · rcases ty_cases t with h3 | ⟨k, rfl⟩
          · simp [tyName, e1, e2, enumAt_lt h3] at hn
          · have hw : IntKind.i64.wrap (k : Int) = k := by rw [wrap_i64] <;> omega
            by_cases hk : k < en.length
            · have he := enumAt_in hk
              simp [tyHas, tySize, e1, e2, he] at hh
              obtain ⟨m, rfl⟩ : ∃ m : Nat, v = m := ⟨v.toNat, by omega⟩
              have hm : m < en[k].tags.length := by omega
              simp [f_ref05_Text, h1, h2, hn, tyHas, tySize, hh, e1, e2, he, hw, hk, hm]
            · have he := enumAt_out (en := en) (k := k) (by omega)
              simp [tyName, e1, e2, he] at hn

theorem ref_valParse (en : List Enum) (hen : EOK en) (t : Int) (ht : I64 t) (s : Str) (hs : s.length ≤ 281474976710656) (o : Bool) (h : List PObj) : ∃ k, callL L 80 [.list o (en.map eEnum), .int .i64 t, .str s] h = some (.tuple [.int .i64 k, .int .i64 (valParse en t s).2], h) ∧ ((valParse en t s).2 = 0 → k = (valParse en t s).1) := by
  suffices H : ∃ r, callL L 80 [.list o (en.map eEnum), .int .i64 t, .str s] h = some r ∧ ∃ k, r = (.tuple [.int .i64 k, .int .i64 (valParse en t s).2], h) ∧ ((valParse en t s).2 = 0 → k = (valParse en t s).1) by
    obtain ⟨r, h1, k, rfl, h2⟩ := H
    exact ⟨k, h1, h2⟩
  refine callL_wpP (hL 80 _ rfl) rfl ?_
  have h1 := ref_known hL en t ht false []
  cases hn : tyName en t with
  | none => simp [f_ref05_Parse, valParse, h1, hn, endP]
  | some nm =>
    by_cases e2 : t = 2
    · subst e2
      obtain ⟨k, hc, hk⟩ := ref_number hL s hs []
      simp only [valParse, hn, Option.isNone_some, Bool.false_eq_true, if_false, if_true]
      cases hi : intOf s with
      | none =>
        rw [hi] at hc
        simp at hc
        simp [f_ref05_Parse, h1, hn, hc, endP]
      | some m =>
        rw [hi] at hc
        simp at hc
        have := hk m hi
        subst this
        simp [f_ref05_Parse, h1, hn, hc, endP]
    · have hsz := ref_size hL en t ht false []
      have hb := tySize_len hen t
      have hp : valParse en t s = match (List.range (tySize en t)).find? (fun v : Nat => decide ((valText en t v).2 = 0 ∧ (valText en t v).1 = s)) with | some v => ((v : Int), 0) | none => (0, 5) := by simp [valParse, hn, e2]; rfl
      have hz0 : ∀ v : Nat, v < tySize en t → (valText en t v).2 = 0 := by
        intro v hv
        have hh : tyHas en t v = true := by simp [tyHas, e2]; omega
        rw [valText_ok (by rw [hn]; rfl) hh, if_neg e2]
        split <;> rfl
      generalize valParse en t s = R at hp ⊢
      simp [f_ref05_Parse, h1, hn, e2, hsz]
      refine loop_upd (tySize en t) (fun v => !decide ((valText en t v).2 = 0 ∧ (valText en t v).1 = s)) (fun v (x : PV) => [(7, .int .i64 v), (8, x)]) (fun _ _ => h) .dead ?_ ?_ ?_ rfl rfl
      · intro v hv hz x ih
        have hw := wrap_succ v (by omega)
        have hvt := ref_valText hL en t v ht ⟨by omega, by omega⟩ false []
        simp only [Bool.not_eq_true', decide_eq_false_iff_not, not_and] at hz
        have he2 := hz (hz0 v hv)
        simp [hv, hsz, hvt, he2, hw]
        simpa using ih _
      · intro v hv hz hk x
        have hf := find_range (p := fun v : Nat => decide ((valText en t v).2 = 0 ∧ (valText en t v).1 = s)) hv (by simpa using hz) (fun k hk' => by have := hk k hk'; simp only [Bool.not_eq_true'] at this; exact this)
        rw [hf] at hp
        have hvt := ref_valText hL en t v ht ⟨by omega, by omega⟩ false []
        simp only [Bool.not_eq_false', decide_eq_true_eq] at hz
        simp [hv, hsz, hvt, hz.1, hz.2, hp, endP]
      · intro hz x
        have hf := find_range_no (n := tySize en t) (p := fun v : Nat => decide ((valText en t v).2 = 0 ∧ (valText en t v).1 = s)) (fun k hk => by have := hz k hk; simp only [Bool.not_eq_true'] at this; exact this)
        rw [hf] at hp
        simp [hsz, hp, endP]
end
end PI.Tr
set_option maxRecDepth 100000
set_option linter.unusedSimpArgs false
set_option linter.unusedVariables false
namespace PI.Tr
open Go (IntKind BinOp UnOp)

/-- The error of a line of cells. -/
def rowE (en : List Enum) (cols : List Decl) (l : List Str) : Int := if l.length ≠ cols.length then 9 else firstErr l.length (fun i => if (cellAt en cols l i).isNone then 5 else 0)
def rowC (en : List Enum) (cols : List Decl) (l : List Str) : List Cell := if rowE en cols l = 0 then lineCells en cols l l.length else []

section
variable {L : Nat → Option PFunc} (hL : ∀ k f, LZ k = some f → L k = some f)
include hL

theorem names_inner (l : List Str) (hl : l.length ≤ 384) (i : Nat) (hi : i < l.length) (g : Nat) (h : List PObj) {Q : PExit → St → Prop}
    (h0 : l[i] ∉ l.take i → Q (.exit 2) ⟨[.list false (l.map .str), .int .i64 0, .int .i64 i, .int .i64 i], [], g, h⟩)
    (h1 : l[i] ∈ l.take i → ∀ y, Q .ret ⟨[.list false (l.map .str), .int .i64 7, .int .i64 i, y], [], g, h⟩) :
    wpL L f_ref43_names_l0 ⟨[.list false (l.map .str), .int .i64 0, .int .i64 i, .int .i64 0], [], g, h⟩ Q := by
  have _ := hL
  refine loop_upd i (fun k => decide (l.getD k [] ≠ l[i])) (fun k (x : Unit) => [(3, .int .i64 k)]) (fun _ _ => h) () ?_ ?_ ?_ rfl rfl
  · intro k hk hz x ih
    have hw := wrap_succ k (by omega)
    have hk2 : k < l.length := by omega
    simp [List.getD, hk2] at hz
    simp [hk, hk2, hi, hz, hw]
    simpa using ih ()
  · intro k hk hz hk' x
    have hk2 : k < l.length := by omega
    simp [List.getD, hk2] at hz
    have hm : l[i] ∈ l.take i := by
      rw [← hz, List.mem_iff_getElem]
      exact ⟨k, by simp; omega, by simp⟩
    simp [hk, hk2, hi, hz]
    exact h1 hm _
  · intro hz x
    have hm : l[i] ∉ l.take i := by
      intro hm
      obtain ⟨k, hk, e⟩ := List.mem_iff_getElem.1 hm
      have hk1 : k < i := by simp at hk; omega
      have hk2 : k < l.length := by omega
      have := hz k hk1
      simp [List.getD, hk2] at this e
      exact this e
    simp
    exact h0 hm

theorem ref_names (l : List Str) (o : Bool) (h : List PObj) : callL L 74 [.list o (l.map .str)] h = some (.int .i64 (namesErr l), h) := by
  have hLc : ∀ k f, Lc k = some f → L k = some f := fun k f hk => hL k f (LZ_c k f hk)
  refine callL_wp (hL 74 _ rfl) rfl ?_
  by_cases h1 : 384 < l.length
  · have h1' : (384 : Int) < l.length := by omega
    simp [f_ref43_names, h1, h1', namesErr]
  · have h1' : ¬ (384 : Int) < l.length := by omega
    have he : namesErr l = firstErr l.length (nameErr l) := if_neg h1
    generalize namesErr l = E at he ⊢
    simp [f_ref43_names, h1']
    refine loop_upd l.length (fun i => decide (nameErr l i = 0)) (fun i (x : PV) => [(2, .int .i64 i), (3, x)]) (fun _ _ => h) .dead ?_ ?_ ?_ rfl rfl
    · intro i hi hz x ih
      have hw := wrap_succ i (by omega)
      simp only [nameErr, List.getD, List.getElem?_eq_getElem hi, Option.getD_some, decide_eq_true_eq] at hz
      have e1 : ident l[i] = true := by
        cases hx : ident l[i] with
        | true => rfl
        | false => rw [hx] at hz; simp at hz
      rw [if_neg (by simp [e1])] at hz
      have e2 : l[i] ∉ l.take i := by
        intro hx; rw [if_pos hx] at hz; simp at hz
      simp [hi, ref_ident hLc, e1]
      refine names_inner hL l (by omega) i hi _ _ ?_ (fun hm => absurd hm e2)
      intro _
      simp [hw]
      simpa using ih _
    · intro i hi hz hk x
      have hf := firstErr_at (err := nameErr l) hi (by simpa using hz) (fun k hk' => by simpa using hk k hk')
      rw [hf] at he
      simp only [nameErr, List.getD, List.getElem?_eq_getElem hi, Option.getD_some, decide_eq_false_iff_not] at hz he
      by_cases e1 : ident l[i] = true
      · rw [if_neg (by simp [e1])] at hz he
        by_cases e2 : l[i] ∈ l.take i
        · rw [if_pos e2] at he
          subst he
          simp [hi, ref_ident hLc, e1]
          refine names_inner hL l (by omega) i hi _ _ (fun hm => absurd e2 hm) ?_
          intro _ y
          simp
        · rw [if_neg e2] at hz; simp at hz
      · have e1' : ident l[i] = false := by simpa using e1
        rw [if_pos (by simp [e1'])] at he
        subst he
        simp [hi, ref_ident hLc, e1']
    · intro hz x
      have hf := firstErr_no (err := nameErr l) (n := l.length) (fun k hk => by simpa using hz k hk)
      rw [hf] at he
      subst he
      simp

theorem ref_row (en : List Enum) (hen : EOK en) (cols : List Decl) (hcols : ∀ d ∈ cols, I64 d.type) (hlen : cols.length ≤ 384) (l : List Str) (hl : ∀ s ∈ l, s.length ≤ 281474976710656) (o o' o'' : Bool) (h : List PObj) :
    callL L 76 [.list o (en.map eEnum), .list o' (cols.map eDecl), .list o'' (l.map .str)] h = some (.tuple [.list false ((rowC en cols l).map eCell), .int .i64 (rowE en cols l)], h) := by
  refine callL_wp (hL 76 _ rfl) rfl ?_
  by_cases h1 : l.length = cols.length
  · have h1' : (l.length : Int) = cols.length := by omega
    have he : rowE en cols l = firstErr l.length (fun i => if (cellAt en cols l i).isNone then 5 else 0) := by rw [rowE, if_neg (by simpa using h1)]
    have hC : rowC en cols l = if rowE en cols l = 0 then lineCells en cols l l.length else [] := rfl
    generalize rowC en cols l = C at hC ⊢
    generalize rowE en cols l = E at he hC ⊢
    simp [f_ref43_row, h1']
    refine loop_upd l.length (fun i => (cellAt en cols l i).isSome) (fun i (x : PV × PV × PV) => [(5, .list true ((lineCells en cols l i).map eCell)), (6, .int .i64 i), (7, x.1), (8, x.2.1), (9, x.2.2)]) (fun _ _ => h) (.dead, .dead, .dead) ?_ ?_ ?_ rfl rfl
    · intro i hi hz x ih
      have hw := wrap_succ i (by omega)
      have hic : i < cols.length := by omega
      obtain ⟨k, hvp, hk⟩ := ref_valParse hL en hen cols[i].type (hcols _ (List.getElem_mem hic)) l[i] (hl _ (List.getElem_mem hi)) false []
      have hsucc := lineCells_succ en cols l i
      have hb : i ≤ 2147483647 := by omega
      simp only [cellAt, List.getD, List.getElem?_eq_getElem hi, List.getElem?_eq_getElem hic, Option.getD_some] at hz hsucc
      have z0 : PV.agg [.int .i64 0, .int .i64 0] = eCell ⟨0, 0⟩ := rfl
      have z2 : PV.agg [.int .i64 2, .int .i64 0] = eCell ⟨2, 0⟩ := rfl
      have z1 : ∀ v : Int, PV.agg [.int .i64 1, .int .i64 v] = eCell ⟨1, v⟩ := fun _ => rfl
      unfold parseCell at hz hsucc
      by_cases s1 : l[i] = [45]
      · rw [if_pos s1] at hsucc
        simp [hi, s1, hw, hb]
        simpa [hsucc, z0, z1, z2] using ih (_, _, _)
      · by_cases s2 : l[i] = [63]
        · rw [if_neg s1, if_pos s2] at hsucc
          simp [hi, s2, hw, hb]
          simpa [hsucc, z0, z1, z2] using ih (_, _, _)
        · rw [if_neg s1, if_neg s2] at hz hsucc
          by_cases s3 : (valParse en cols[i].type l[i]).2 = 0
          · rw [if_pos s3, ← hk s3] at hsucc
            rw [s3] at hvp
            simp [hi, hic, s1, s2, s3, hw, hb, hvp]
            simpa [hsucc, z0, z1, z2] using ih (_, _, _)
          · rw [if_neg s3] at hz; simp at hz
    · intro i hi hz hk x
      have hf := firstErr_at (err := fun i => if (cellAt en cols l i).isNone then (5 : Int) else 0) hi (by simp at hz ⊢; simp [hz]) (fun k hk' => if_neg (some_not_none (hk k hk')))
      rw [hf] at he
      have hz' : cellAt en cols l i = none := by simpa using hz
      rw [hz'] at he
      simp at he
      subst he
      rw [if_neg (by decide)] at hC
      subst hC
      have hic : i < cols.length := by omega
      obtain ⟨k, hvp, hk⟩ := ref_valParse hL en hen cols[i].type (hcols _ (List.getElem_mem hic)) l[i] (hl _ (List.getElem_mem hi)) false []
      simp only [cellAt, List.getD, List.getElem?_eq_getElem hi, List.getElem?_eq_getElem hic, Option.getD_some] at hz'
      unfold parseCell at hz'
      by_cases s1 : l[i] = [45]
      · rw [if_pos s1] at hz'; simp at hz'
      · by_cases s2 : l[i] = [63]
        · rw [if_neg s1, if_pos s2] at hz'; simp at hz'
        · rw [if_neg s1, if_neg s2] at hz'
          by_cases s3 : (valParse en cols[i].type l[i]).2 = 0
          · rw [if_pos s3] at hz'; simp at hz'
          · simp [hi, hic, s1, s2, s3, hvp]
    · intro hz x
      have hf := firstErr_no (err := fun i => if (cellAt en cols l i).isNone then (5 : Int) else 0) (n := l.length) (fun k hk => if_neg (some_not_none (hz k hk)))
      rw [hf] at he
      subst he
      rw [if_pos rfl] at hC
      subst hC
      simp
  · have h1' : ¬ (l.length : Int) = cols.length := by omega
    have he : rowE en cols l = 9 := if_pos h1
    have hC : rowC en cols l = [] := by rw [rowC, he]; rfl
    rw [he, hC]
    simp [f_ref43_row, h1']

end
end PI.Tr
set_option maxRecDepth 100000
set_option linter.unusedSimpArgs false
set_option linter.unusedVariables false
namespace PI.Tr
open Go (IntKind BinOp UnOp)

/-- The columns that have been read. -/
def colsTo (en : List Enum) (wa wb : List Str) (i : Nat) : List Decl := (List.range i).map fun k => ⟨wa.getD k [], (typeOf en (wb.getD k [])).getD 0, []⟩
theorem colsTo_succ (en : List Enum) (wa wb : List Str) (i : Nat) : colsTo en wa wb (i + 1) = colsTo en wa wb i ++ [⟨wa.getD i [], (typeOf en (wb.getD i [])).getD 0, []⟩] := by simp [colsTo, List.range_succ]
@[simp] theorem colsTo_len (en : List Enum) (wa wb : List Str) (i : Nat) : (colsTo en wa wb i).length = i := by simp [colsTo]
theorem colsTo_typed (en : List Enum) (wa wb : List Str) (h : wb.length = wa.length) : typed en wb (wa.map nameCol) wb.length = colsTo en wa wb wa.length := by
  apply List.ext_getElem?
  intro k
  by_cases hk : k < wa.length
  · rw [typed_at en wb _ wb.length k (by simpa using hk)]
    simp [colsTo, hk, h, nameCol]
  · rw [List.getElem?_eq_none (by simp; omega), List.getElem?_eq_none (by simp; omega)]

theorem parseL_lens (en : List Enum) : ∀ (ls : List Str) (n : Nat) (cols : List Decl) (rows : List Row), 1 ≤ n → cols.length ≤ 384 → (∀ d ∈ cols, d.clock = []) → rows.length ≤ 4096 → (∀ r ∈ rows, r.length ≤ 384) → Lens (parseL en ls n cols rows).1
  | [], n, cols, rows, _, _, _, _, _ => ⟨by simp [parseL, noTrace], by simp [parseL, noTrace], by simp [parseL, noTrace], by simp [parseL, noTrace]⟩
  | [s], n, cols, rows, _, h1, h2, h3, h4 => by
    have z : Lens noTrace := ⟨by simp [noTrace], by simp [noTrace], by simp [noTrace], by simp [noTrace]⟩
    simp only [parseL]
    split
    · exact ⟨by simp; omega, by simp; omega, fun d hd => by rw [h2 d hd]; simp, fun r hr => by have := h4 r hr; omega⟩
    · exact z
  | w :: b :: r, n, cols, rows, h0, h1, h2, h3, h4 => by
    have z : Lens noTrace := ⟨by simp [noTrace], by simp [noTrace], by simp [noTrace], by simp [noTrace]⟩
    simp only [parseL]
    split
    · split
      · rename_i hn he
        refine parseL_lens en (b :: r) 2 _ rows (by omega) ?_ ?_ h3 h4
        · unfold namesErr at he
          split at he
          · simp at he
          · simp; omega
        · intro d hd
          simp at hd
          obtain ⟨w, _, rfl⟩ := hd
          rfl
      · exact z
    · split
      · split
        · rename_i he
          refine parseL_lens en (b :: r) 3 _ rows (by omega) (by simpa using h1) ?_ h3 h4
          intro d hd
          obtain ⟨k, hk, rfl⟩ := List.mem_iff_getElem.1 hd
          have hk' : k < cols.length := by simpa using hk
          have := typed_at en (wordsOf w) cols (wordsOf w).length k hk'
          rw [List.getElem?_eq_getElem hk] at this
          simp only [Option.some.injEq] at this
          rw [this]
          have hc := h2 _ (List.getElem_mem hk')
          split
          · exact hc
          · exact hc
        · exact z
      · split
        · rename_i he
          unfold lineErr at he
          split at he
          · simp at he
          · split at he
            · simp at he
            · rename_i q1 q2
              refine parseL_lens en (b :: r) (n + 1) cols _ (by omega) h1 h2 (by simp; omega) ?_
              intro x hx
              rcases List.mem_append.1 hx with hx | hx
              · exact h4 x hx
              · simp at hx; subst hx; simp at q2 ⊢; omega
        · exact z

section
variable {L : Nat → Option PFunc} (hL : ∀ k f, LZ k = some f → L k = some f)
include hL

theorem ref_rows_l (en : List Enum) (hen : EOK en) (ls : List Str) (hls : ls.length ≤ 10000000) (hmem : ∀ w ∈ ls, w.length ≤ 10000000) (cols : List Decl) (hct : ∀ d ∈ cols, I64 d.type) (hcl : cols.length ≤ 384) (full : Nat) (hfull : ls.length = full + 1) (res : Trace × Nat × Int) (g : Nat) (h : List PObj) (v1 v7 v8 v9 v11 v12 v13 : PV) {Q : PExit → St → Prop}
    (h0 : ∀ rows x15 x16, parseL en (ls.drop full) (full + 1) cols rows = res → Q (.exit 2) ⟨[.list false (en.map eEnum), v1, .loc 0 [.list true [], .list true []], .int .i64 0, .int .i64 0, .list false (ls.map .str), .int .i64 full, v7, v8, v9, .loc 1 [.list true (cols.map eDecl), .list true (rows.map eRow)], v11, v12, v13, .int .i64 full, x15, x16], [], g, h⟩)
    (h1 : ∀ (n : Nat) (e : Int) C x14 x15 x16, res = (noTrace, n, e) → Q .ret ⟨[.list false (en.map eEnum), v1, .loc 0 [.list true [], .list true []], .int .i64 n, .int .i64 e, .list false (ls.map .str), .int .i64 full, v7, v8, v9, C, v11, v12, v13, x14, x15, x16], [], g, h⟩) :
    ∀ (d k : Nat) (rows : List Row), k + d = full → 2 ≤ k → rows.length + 2 = k → rows.length ≤ 4096 → parseL en (ls.drop k) (k + 1) cols rows = res → ∀ x15 x16,
      wpL L f_ref43_Parse_l1 ⟨[.list false (en.map eEnum), v1, .loc 0 [.list true [], .list true []], .int .i64 0, .int .i64 0, .list false (ls.map .str), .int .i64 full, v7, v8, v9, .loc 1 [.list true (cols.map eDecl), .list true (rows.map eRow)], v11, v12, v13, .int .i64 k, x15, x16], [], g, h⟩ Q := by
  intro d
  induction d with
  | zero =>
    intro k rows hk h2 hr hr2 hres x15 x16
    have : k = full := by omega
    subst this
    unfold f_ref43_Parse_l1
    rw [wpL_loop]
    simp
    exact h0 _ _ _ hres
  | succ d ih =>
    intro k rows hk h2 hr hr2 hres x15 x16
    unfold f_ref43_Parse_l1
    rw [wpL_loop]
    have hkl : k < ls.length := by omega
    have hkf : k < full := by omega
    have hw := wrap_succ k (by omega)
    obtain ⟨b, rest, hbr⟩ : ∃ b rest, ls.drop (k + 1) = b :: rest := by
      cases hx : ls.drop (k + 1) with
      | nil => have := congrArg List.length hx; simp at this; omega
      | cons b rest => exact ⟨b, rest, rfl⟩
    rw [List.drop_eq_getElem_cons hkl, hbr] at hres
    simp only [parseL] at hres
    rw [if_neg (by omega), if_neg (by omega), ← hbr] at hres
    have hwl := hmem _ (List.getElem_mem hkl)
    have hword := ref_words hL ls[k] (by omega) []
    have hrow := ref_row hL en hen cols hct hcl (wordsOf ls[k]) (fun w hw => by have := wordsOf_mem hw; omega) false false false []
    have hle : lineErr en cols rows (wordsOf ls[k]) = if rows.length = 4096 then 3 else rowE en cols (wordsOf ls[k]) := rfl
    by_cases h4 : rows.length = 4096
    · rw [if_pos h4] at hle
      rw [hle, if_neg (by decide)] at hres
      have hk4 : (4098 : Int) ≤ k := by omega
      have := h1 (k + 1) 3
      simp [hkf, hk4, hw]
      simpa using this _ _ _ _ hres.symm
    · rw [if_neg h4] at hle
      have hk4 : ¬ (4098 : Int) ≤ k := by omega
      have hlc : rowE en cols (wordsOf ls[k]) = 0 → rowC en cols (wordsOf ls[k]) = lineCells en cols (wordsOf ls[k]) (wordsOf ls[k]).length := fun e => by rw [rowC, if_pos e]
      rw [hle] at hres
      generalize rowC en cols (wordsOf ls[k]) = C at hrow hlc
      generalize rowE en cols (wordsOf ls[k]) = E at hrow hlc hres
      by_cases he : E = 0
      · subst he
        rw [if_pos rfl, ← hlc rfl] at hres
        have hb : rows.length ≤ 2147483647 := by omega
        have hfold : PV.list false (C.map eCell) = eRow C := rfl
        have := ih (k + 1) (rows ++ [C]) (by omega) (by omega) (by simp; omega) (by simp; omega) hres
        simp [hkf, hkl, hk4, hw, hword, hrow, hb, hfold]
        have t := this (eRow C) (.int .i64 0)
        simp at t
        exact t
      · rw [if_neg he] at hres
        have := h1 (k + 1) E
        simp [hkf, hkl, hk4, hw, hword, hrow, he]
        simpa using this _ _ _ _ hres.symm

theorem ref_parse (en : List Enum) (hen : EOK en) (s : Str) (hs : s.length ≤ 1000000) (o : Bool) (h : List PObj) :
    callL L 67 [.list o (en.map eEnum), .str s] h = some (.tuple [eTrace (parse en s).1, .int .i64 (parse en s).2.1, .int .i64 (parse en s).2.2], h) := by
  have hLc : ∀ k f, Lc k = some f → L k = some f := fun k f hk => hL k f (LZ_c k f hk)
  have hli := ref_lines hLc s (by omega) []
  have hne := split_ne 10 s
  have hlen := split_len 10 s
  have hmem := split_mem 10 s
  unfold parse
  generalize split 10 s = ls at *
  have hzt : eTrace noTrace = .agg [.list false [], .list false []] := rfl
  match ls, hne with
  | [a], _ =>
    have hp : parseL en [a] 1 [] [] = (noTrace, 1, 4) := by simp [parseL]
    rw [hp]
    refine callL_wp (hL 67 _ rfl) rfl ?_
    simp at hli
    have w0 : IntKind.i64.wrap 0 = 0 := by rw [wrap_i64] <;> omega
    simp [f_ref43_Parse, hli, hzt, w0]
  | a :: b :: r, _ =>
    have hla := hmem a (by simp)
    have hlb := hmem b (by simp)
    have hwa := ref_words hL a (by omega) []
    have hwb := ref_words hL b (by omega) []
    have hna := ref_names hL (wordsOf a) false []
    have hp1 : parseL en (a :: b :: r) 1 [] [] = if namesErr (wordsOf a) = 0 then parseL en (b :: r) 2 ((wordsOf a).map nameCol) [] else (noTrace, 1, namesErr (wordsOf a)) := by
      simp only [parseL, if_true]
    generalize parseL en (a :: b :: r) 1 [] [] = res at hp1 ⊢
    obtain ⟨ls, hls⟩ : ∃ ls, ls = a :: b :: r := ⟨_, rfl⟩
    have hmem' : ∀ w ∈ ls, w.length ≤ 10000000 := fun w hw => by have := hmem w (by rw [← hls]; exact hw); omega
    rw [← hls] at hli hlen
    have hi0 : 0 < ls.length := by simp [hls]
    have hi1 : 1 < ls.length := by simp [hls]
    have hi1' : (1 : Int) < ls.length := by omega
    have hl0 : ls[0] = a := by simp [hls]
    have hl1 : ls[1] = b := by simp [hls]
    have hfull : ls.length = (r.length + 1) + 1 := by simp [hls]
    obtain ⟨full, hf⟩ : ∃ f, f = r.length + 1 := ⟨_, rfl⟩
    rw [← hf] at hfull
    have hwf : IntKind.i64.wrap ((ls.length : Int) - 1) = full := by rw [wrap_i64] <;> omega
    have hf1 : ¬ (full : Int) < 1 := by omega
    have hdrop2 : ls.drop 2 = r := by rw [hls]; rfl
    refine callL_wp (hL 67 _ rfl) rfl ?_
    by_cases he : namesErr (wordsOf a) = 0
    · rw [if_pos he] at hp1
      have hwl2 : (wordsOf a).length ≤ 384 := by
        unfold namesErr at he
        split at he
        · simp at he
        · omega
      cases r with
      | nil =>
        have hf2 : (full : Int) < 2 := by simp at hf; omega
        simp [parseL] at hp1
        subst hp1
        simp [f_ref43_Parse, hli, hwf, hf1, hf2, hi0, hi1, hi1', hl0, hl1, hwa, hna, he, hzt]
      | cons c r =>
        have hf2 : ¬ (full : Int) < 2 := by simp at hf; omega
        have hp2 : parseL en (b :: c :: r) 2 ((wordsOf a).map nameCol) [] = if typesErr en (wordsOf b) ((wordsOf a).map nameCol) = 0 then parseL en (c :: r) 3 (typed en (wordsOf b) ((wordsOf a).map nameCol) (wordsOf b).length) [] else (noTrace, 2, typesErr en (wordsOf b) ((wordsOf a).map nameCol)) := by
          simp only [parseL]
          rw [if_neg (by decide), if_pos trivial]
        rw [hp2] at hp1
        have hct := colsTo_typed en (wordsOf a) (wordsOf b)
        have hti := typed_I64 hen (wordsOf b) (cols := (wordsOf a).map nameCol) (by
          intro d hd
          simp at hd
          obtain ⟨w, _, rfl⟩ := hd
          show I64 0
          exact ⟨by decide, by decide⟩) (wordsOf b).length
        generalize wordsOf a = wa at *
        generalize wordsOf b = wb at *
        by_cases hl : wb.length = wa.length
        · have hl' : (wb.length : Int) = wa.length := by omega
          have hte : typesErr en wb (wa.map nameCol) = firstErr wb.length (fun i => if (typeOf en (wb.getD i [])).isNone then 10 else 0) := if_neg (by simpa using hl)
          rw [hct hl] at hp1 hti
          simp [f_ref43_Parse, hli, hwf, hf1, hf2, hi0, hi1, hi1', hl0, hl1, hwa, hwb, hna, he, hl']
          refine loop_upd wa.length (fun i => (typeOf en (wb.getD i [])).isSome) (fun i (x : PV × PV) => [(10, .loc 1 [.list true ((colsTo en wa wb i).map eDecl), .list true []]), (11, .int .i64 i), (12, x.1), (13, x.2)]) (fun _ _ => h) (.dead, .dead) ?_ ?_ ?_ rfl rfl
          · intro i hi hz x ih
            have hw := wrap_succ i (by omega)
            have hib : i < wb.length := by omega
            have ht := ref_type hL en hen wb[i] false []
            have hb : i ≤ 2147483647 := by omega
            have hs := colsTo_succ en wa wb i
            simp only [List.getD, List.getElem?_eq_getElem hi, List.getElem?_eq_getElem hib, Option.getD_some] at hz hs
            have zd : ∀ (n : Str) (t : Int), PV.agg [.str n, .int .i64 t, .list false []] = eDecl ⟨n, t, []⟩ := fun _ _ => rfl
            simp [hi, hib, ht, hz, hw, hb, zd]
            simpa [hs] using ih (_, _)
          · intro i hi hz hk x
            have hib : i < wb.length := by omega
            have ht := ref_type hL en hen wb[i] false []
            have hf := firstErr_at (err := fun i => if (typeOf en (wb.getD i [])).isNone then 10 else 0) hib (by simp at hz ⊢; simp [hz]) (fun k hk' => if_neg (some_not_none (hk k hk')))
            rw [hf] at hte
            simp only [List.getD, List.getElem?_eq_getElem hib, Option.getD_some] at hz hte
            have hz' : typeOf en wb[i] = none := by simpa using hz
            rw [hz'] at hte
            simp at hte
            rw [hte, if_neg (by decide)] at hp1
            subst hp1
            simp [hi, hib, ht, hz', hz, hzt]
          · intro hz x
            have hf := firstErr_no (err := fun i => if (typeOf en (wb.getD i [])).isNone then (10 : Int) else 0) (n := wb.length) (fun k hk => if_neg (some_not_none (hz k (by omega))))
            rw [hf] at hte
            rw [if_pos hte] at hp1
            simp
            refine ref_rows_l hL en hen ls (by omega) hmem' (colsTo en wa wb wa.length) hti (by simpa using hwl2) full hfull res _ _ _ _ _ _ _ _ _ ?_ ?_ (full - 2) 2 [] (by omega) (by omega) rfl (by simp) (by rw [hdrop2]; exact hp1.symm) _ _
            · intro rows x15 x16 hr
              have hff : full < ls.length := by omega
              have hff' : (full : Int) < ls.length := by omega
              have hd1 : ls.drop full = [ls[full]] := by
                rw [List.drop_eq_getElem_cons hff, List.drop_eq_nil_of_le (by omega)]
              rw [hd1] at hr
              simp only [parseL] at hr
              have hw := wrap_succ full (by omega)
              have het : ∀ cols rows, eTrace ⟨cols, rows⟩ = .agg [.list false (cols.map eDecl), .list false (rows.map eRow)] := fun _ _ => rfl
              by_cases hlast : ls[full] = []
              · rw [if_pos ⟨hlast, by omega⟩] at hr
                subst hr
                simp [hff, hff', hlast, het]
              · rw [if_neg (fun hx => hlast hx.1)] at hr
                subst hr
                simp [hff, hff', hlast, hw, hzt]
            · intro n e C x14 x15 x16 hr
              subst hr
              simp [hzt]
        · have hl' : ¬ (wb.length : Int) = wa.length := by omega
          have hte : typesErr en wb (wa.map nameCol) = 9 := if_pos (by simpa using hl)
          rw [hte, if_neg (by decide)] at hp1
          subst hp1
          simp [f_ref43_Parse, hli, hwf, hf1, hf2, hi0, hi1, hi1', hl0, hl1, hwa, hwb, hna, he, hl', hzt]
    · rw [if_neg he] at hp1
      subst hp1
      simp [f_ref43_Parse, hli, hwf, hf1, hi0, hi1, hi1', hl0, hl1, hwa, hna, he, hzt]

theorem law_parses (en : List Enum) (hen : EOK en) (s : Str) (o : Bool) (h : List PObj) : callL L 64 [.list o (en.map eEnum), .str s] h = some (.bool true, h) := by
  have hLc : ∀ k f, Lc k = some f → L k = some f := fun k f hk => hL k f (LZ_c k f hk)
  have haw := law_awake hLc []
  refine callL_wp (hL 64 _ rfl) rfl ?_
  by_cases h6 : 6000 < s.length
  · have h6' : (6000 : Int) < s.length := by omega
    simp [f_law43_TraceParses, h6', haw]
  · have h6' : ¬ (6000 : Int) < s.length := by omega
    obtain ⟨h', hp⟩ := trace_parse hLc en hen s (by omega) false []
    have hr := ref_parse hL en hen s (by omega) false []
    have hln : Lens (parse en s).1 := parseL_lens en (split 10 s) 1 [] [] (by omega) (by simp) (by simp) (by simp) (by simp)
    have hsm := ref_same hLc (parse en s).1 (parse en s).1 hln []
    generalize parse en s = P at *
    simp at hsm
    simp [f_law43_TraceParses, h6', hp, hr, hsm, haw]
end
end PI.Tr
set_option maxRecDepth 100000
set_option linter.unusedSimpArgs false
set_option linter.unusedVariables false
namespace PI.Tr
open Go (IntKind BinOp UnOp)

theorem flatten_take_le {l : List Str} (i : Nat) : (l.take i).flatten.length ≤ l.flatten.length := by
  conv => rhs; rw [← List.take_append_drop i l]
  simp only [List.flatten_append, List.length_append]
  omega
theorem join_take_le (c : Str) (ws : List Str) (i : Nat) : (Go.Lib.join (ws.take i) c).length ≤ (Go.Lib.join ws c).length := by
  cases ws with
  | nil => simp
  | cons x r =>
    cases i with
    | zero => simp [Go.Lib.join_nil]
    | succ i =>
      rw [List.take_succ_cons, Go.Lib.join_cons, Go.Lib.join_cons]
      simp only [Go.Lib.joinTail, List.length_append]
      refine Nat.add_le_add_left ?_ _
      rw [List.map_take]
      exact flatten_take_le i

section
variable {L : Nat → Option PFunc} (hL : ∀ k f, LZ k = some f → L k = some f)
include hL

theorem ref_line (l : List Str) (hb : (lineText l).length ≤ 140737488355328) (hl : l.length ≤ 2147483647) (o : Bool) (h : List PObj) : callL L 69 [.list o (l.map .str)] h = some (.str (lineText l), h) := by
  refine callL_wp (hL 69 _ rfl) rfl ?_
  unfold lineText at hb ⊢
  simp only [List.length_append, List.length_cons, List.length_nil] at hb
  have hj : ∀ i, (Go.Lib.join (l.take i) [32]).length ≤ (Go.Lib.join l [32]).length := join_take_le [32] l
  have hsn : ∀ i (hi : i < l.length), 0 < i → Go.Lib.join (l.take (i + 1)) [32] = Go.Lib.join (l.take i) [32] ++ 32 :: l[i] := by
    intro i hi h0
    rw [take_succ' hi, join_snoc]
    intro e
    have := congrArg List.length e
    simp only [List.length_take, List.length_nil] at this
    omega
  simp [f_ref43_line]
  refine loop_go l.length (fun i (x : Unit) => [(2, .str (Go.Lib.join (l.take i) [32])), (3, .int .i64 i)]) (fun _ _ => h) () ?_ ?_ (by simp [Go.Lib.join_nil]) rfl
  · intro i hi x ih
    have hw := wrap_succ i (by omega)
    have h1 := hj (i + 1)
    have h2 := ih ()
    cases i with
    | zero =>
      have e : Go.Lib.join (l.take (0 + 1)) [32] = l[0] := by
        rw [take_succ' hi]; simp [Go.Lib.join_one]
      rw [e] at h1 h2
      have hb1 : l[0].length ≤ 4611686018427387904 := by omega
      simp [hi, Go.Lib.join_nil, hb1]
      have w1 : IntKind.i64.wrap 1 = 1 := by rw [wrap_i64] <;> omega
      simpa [w1] using h2
    | succ i =>
      rw [hsn (i + 1) hi (by omega)] at h1 h2
      generalize Go.Lib.join (l.take (i + 1)) [32] = J at h1 h2 ⊢
      simp only [List.length_append, List.length_cons] at h1
      have hb1 : J.length ≤ 4611686018427387903 := by omega
      have hb2 : J.length + 1 + l[i + 1].length ≤ 4611686018427387904 := by omega
      have hi0 : (0 : Int) < (i : Int) + 1 := by omega
      have hi1 : (i : Int) + 1 < (l.length : Int) := by omega
      have hi2 : ((i : Int) + 1).toNat = i + 1 := by omega
      have hi3 : (0 : Int) ≤ (i : Int) + 1 := by omega
      have hw' : IntKind.i64.wrap ((i : Int) + 1 + 1) = (i : Int) + 1 + 1 := by rw [wrap_i64] <;> omega
      simp [hi, hi0, hi1, hi2, hi3, hb1, hb2, hw']
      simpa using h2
  · intro x
    have hb1 : (Go.Lib.join l [32]).length ≤ 4611686018427387903 := by omega
    simp [hb1]

theorem ref_cell (en : List Enum) (t : Int) (ht : I64 t) (c : Cell) (o : Bool) (h : List PObj) : callL L 72 [.list o (en.map eEnum), .int .i64 t, eCell c] h = some (.int .i64 (cellErr en t c), h) := by
  refine callL_wp (hL 72 _ rfl) rfl ?_
  have hh := ref_has hL en t c.v ht false []
  obtain ⟨k, v⟩ := c
  by_cases h1 : k = 1
  · subst h1
    cases hv : tyHas en t v <;> simp [f_ref43_cell, cellErr, hh, hv]
  · by_cases hv : v = 0
    · subst hv
      by_cases h0 : k = 0
      · subst h0; simp [f_ref43_cell, cellErr]
      · by_cases h2 : k = 2
        · subst h2; simp [f_ref43_cell, cellErr]
        · simp [f_ref43_cell, cellErr, h0, h1, h2]
    · by_cases h0 : k = 0
      · subst h0; simp [f_ref43_cell, cellErr, hv]
      · by_cases h2 : k = 2
        · subst h2; simp [f_ref43_cell, cellErr, hv]
        · simp [f_ref43_cell, cellErr, h0, h1, h2, hv]

theorem column_inner (l : List Decl) (hl : l.length ≤ 384) (d : Decl) (i : Nat) (hi : i < l.length) (p0 ck x5 : PV) (g : Nat) (h : List PObj) {Q : PExit → St → Prop}
    (h0 : d.name ∉ names (l.take i) → Q (.exit 0) ⟨[p0, .list false (l.map eDecl), .int .i64 i, .int .i64 0, .loc 0 [.str d.name, .int .i64 d.type, ck], x5, .int .i64 i], [], g, h⟩)
    (h1 : d.name ∈ names (l.take i) → ∀ y, Q .ret ⟨[p0, .list false (l.map eDecl), .int .i64 i, .int .i64 7, .loc 0 [.str d.name, .int .i64 d.type, ck], x5, y], [], g, h⟩) :
    wpL L f_ref43_column_l0 ⟨[p0, .list false (l.map eDecl), .int .i64 i, .int .i64 0, .loc 0 [.str d.name, .int .i64 d.type, ck], x5, .int .i64 0], [], g, h⟩ Q := by
  have _ := hL
  refine loop_upd i (fun k => decide ((l.getD k default).name ≠ d.name)) (fun k (x : Unit) => [(6, .int .i64 k)]) (fun _ _ => h) () ?_ ?_ ?_ rfl rfl
  · intro k hk hz x ih
    have hw := wrap_succ k (by omega)
    have hk2 : k < l.length := by omega
    simp [List.getD, hk2] at hz
    simp [hk, hk2, hi, hz, hw]
    simpa using ih ()
  · intro k hk hz hk' x
    have hk2 : k < l.length := by omega
    simp [List.getD, hk2] at hz
    have hm : d.name ∈ names (l.take i) := by
      rw [← hz, names, List.mem_map]
      exact ⟨l[k], by rw [List.mem_iff_getElem]; exact ⟨k, by simp; omega, by simp⟩, rfl⟩
    simp [hk, hk2, hi, hz]
    exact h1 hm _
  · intro hz x
    have hm : d.name ∉ names (l.take i) := by
      intro hm
      rw [names, List.mem_map] at hm
      obtain ⟨y, hy, e⟩ := hm
      obtain ⟨k, hk, rfl⟩ := List.mem_iff_getElem.1 hy
      have hk1 : k < i := by simp at hk; omega
      have hk2 : k < l.length := by omega
      have := hz k hk1
      simp [List.getD, hk2] at this e
      exact this e
    simp
    exact h0 hm

theorem ref_column (en : List Enum) (l : List Decl) (hok : ColsOK l) (hl : l.length ≤ 384) (i : Nat) (hi : i < l.length) (o o' : Bool) (h : List PObj) : callL L 71 [.list o (en.map eEnum), .list o' (l.map eDecl), .int .i64 i] h = some (.int .i64 (colErr en l i), h) := by
  have hLc : ∀ k f, Lc k = some f → L k = some f := fun k f hk => hL k f (LZ_c k f hk)
  refine callL_wp (hL 71 _ rfl) rfl ?_
  have hn := ref_name hL en l[i].type (hok.at hi) false []
  simp only [colErr, List.getElem?_eq_getElem hi]
  have hcl : (eDecl l[i]).cells = [.str l[i].name, .int .i64 l[i].type, .list false (l[i].clock.map eOn)] := rfl
  by_cases e1 : ident l[i].name = true
  · rw [if_neg (by simp [e1])]
    by_cases e2 : (tyName en l[i].type).isNone = true
    · have e2' : (tyName en l[i].type).isSome = false := by simpa using e2
      rw [if_pos e2]
      simp [f_ref43_column, hi, hn, ref_ident hLc, e1, e2']
    · rw [if_neg e2]
      have e2' : (tyName en l[i].type).isSome = true := by cases hx : tyName en l[i].type <;> simp_all
      by_cases e3 : 0 < l[i].clock.length
      · rw [if_pos e3]
        simp [f_ref43_column, hi, hn, ref_ident hLc, e1, e2', e3]
      · rw [if_neg e3]
        have e3' : ¬ (0 : Int) < l[i].clock.length := by omega
        have e3'' : l[i].clock = [] := List.eq_nil_of_length_eq_zero (by omega)
        by_cases e4 : l[i].name ∈ names (l.take i)
        · rw [if_pos e4]
          simp [f_ref43_column, hi, hn, ref_ident hLc, e1, e2', e3'']
          refine column_inner hL l hl l[i] i hi _ _ _ _ _ (fun hm => absurd e4 hm) ?_
          intro _ y
          simp
        · rw [if_neg e4]
          simp [f_ref43_column, hi, hn, ref_ident hLc, e1, e2', e3'']
          refine column_inner hL l hl l[i] i hi _ _ _ _ _ ?_ (fun hm => absurd hm e4)
          intro _
          simp
  · have e1' : ident l[i].name = false := by simpa using e1
    rw [if_pos (by simp [e1'])]
    simp [f_ref43_column, hi, ref_ident hLc, e1']

end
end PI.Tr
set_option maxRecDepth 100000
set_option linter.unusedSimpArgs false
set_option linter.unusedVariables false
namespace PI.Tr
open Go (IntKind BinOp UnOp)

theorem ofBytes_append (a b : Str) : ofBytes a ++ ofBytes b = ofBytes (a ++ b) := by simp [ofBytes]
@[simp] theorem ofBytes_len (a : Str) : (ofBytes a).length = a.length := by simp [ofBytes]
theorem ofBytes_head (a : Str) : headOk 1 (ofBytes a) = true := by cases a <;> simp [ofBytes]
theorem ofBytes_free (a : Str) : refFrees (ofBytes a) = true := by
  induction a with
  | nil => rfl
  | cons b r ih => simp only [ofBytes, List.map_cons, refFrees, refFree, Bool.true_and] at ih ⊢; exact ih
theorem bytesOf_of (a : Str) : bytesOf (ofBytes a) = some a := by
  induction a with
  | nil => rfl
  | cons b r ih =>
    simp only [ofBytes, List.map_cons] at ih ⊢
    have h1 : b.toNat < 256 := b.toNat_lt
    simp only [bytesOf, ih]
    rw [if_pos (by omega)]
    simp

section
variable {L : Nat → Option PFunc} (hL : ∀ k f, LZ k = some f → L k = some f)
include hL

theorem ref_check_row (en : List Enum) (cols : List Decl) (hok : ColsOK cols) (hcl : cols.length ≤ 384) (rows : List Row) (r : Nat) (hr : r < rows.length) (hlen : rows[r].length = cols.length) (p1 v4 v5 x8 : PV) (g : Nat) (h : List PObj) {Q : PExit → St → Prop}
    (h0 : rowErr en cols rows[r] = 0 → ∀ y7 y8, Q (.exit 4) ⟨[.list false (en.map eEnum), p1, .loc 0 [.list false (cols.map eDecl), .list false (rows.map eRow)], .int .i64 0, v4, v5, .int .i64 r, y7, y8], [], g, h⟩)
    (h1 : rowErr en cols rows[r] ≠ 0 → ∀ y7 y8, Q .ret ⟨[.list false (en.map eEnum), p1, .loc 0 [.list false (cols.map eDecl), .list false (rows.map eRow)], .int .i64 (rowErr en cols rows[r]), v4, v5, .int .i64 r, y7, y8], [], g, h⟩) :
    wpL L f_ref43_Check_l1 ⟨[.list false (en.map eEnum), p1, .loc 0 [.list false (cols.map eDecl), .list false (rows.map eRow)], .int .i64 0, v4, v5, .int .i64 r, .int .i64 0, x8], [], g, h⟩ Q := by
  have hre : rowErr en cols rows[r] = firstErr rows[r].length (fun i => cellErr en (cols.getD i default).type (rows[r].getD i default)) := if_neg (by simpa using hlen)
  obtain ⟨row, hrow⟩ : ∃ row, row = rows[r] := ⟨_, rfl⟩
  rw [← hrow] at hre h0 h1 hlen
  refine loop_upd cols.length (fun i => decide (cellErr en (cols.getD i default).type (row.getD i default) = 0)) (fun i (x : PV) => [(7, .int .i64 i), (8, x)]) (fun _ _ => h) x8 ?_ ?_ ?_ rfl rfl
  · intro i hi hz x ih
    have hw := wrap_succ i (by omega)
    have hi' : i < row.length := by omega
    have hi2 : i < rows[r].length := by rw [← hrow]; exact hi'
    simp only [List.getD, List.getElem?_eq_getElem hi, List.getElem?_eq_getElem hi', Option.getD_some, decide_eq_true_eq] at hz
    have hc := ref_cell hL en cols[i].type (hok.at hi) row[i] false []
    have hri : rows[r][i] = row[i] := by simp [hrow]
    simp [hi, hr, hi2, eRow, hri, hc, hz, hw]
    simpa using ih _
  · intro i hi hz hk x
    have hi' : i < row.length := by omega
    have hi2 : i < rows[r].length := by rw [← hrow]; exact hi'
    have hf := firstErr_at (err := fun i => cellErr en (cols.getD i default).type (row.getD i default)) hi' (by simpa using hz) (fun k hk' => by simpa using hk k hk')
    simp only [List.getD, List.getElem?_eq_getElem hi, List.getElem?_eq_getElem hi', Option.getD_some, decide_eq_false_iff_not] at hz hf
    rw [hre] at h1
    simp only [List.getD] at h1
    rw [hf] at h1
    have hc := ref_cell hL en cols[i].type (hok.at hi) row[i] false []
    have hri : rows[r][i] = row[i] := by simp [hrow]
    simp [hi, hr, hi2, eRow, hri, hc, hz]
    exact h1 hz _ _
  · intro hz x
    have hf := firstErr_no (err := fun i => cellErr en (cols.getD i default).type (row.getD i default)) (n := row.length) (fun k hk => by simpa using hz k (by omega))
    simp
    exact h0 (hre.trans hf) _ _

theorem ref_check (en : List Enum) (t : Trace) (hok : TrOK t) (o : Bool) (h : List PObj) : callL L 66 [.list o (en.map eEnum), eTrace t] h = some (.int .i64 (checkErr en t), h) := by
  refine callL_wp (hL 66 _ rfl) rfl ?_
  unfold checkErr
  by_cases h1 : 4096 < t.rows.length
  · have h1' : (4096 : Int) < t.rows.length := by omega
    simp [f_ref43_Check, h1, h1']
  · have h1' : ¬ (4096 : Int) < t.rows.length := by omega
    by_cases h2 : 384 < t.cols.length
    · have h2' : (384 : Int) < t.cols.length := by omega
      simp [f_ref43_Check, h1, h1', h2, h2']
    · have h2' : ¬ (384 : Int) < t.cols.length := by omega
      rw [if_neg (by simp [h1, h2])]
      generalize hE : firstErr t.rows.length (fun r => rowErr en t.cols (t.rows.getD r [])) = E
      generalize hC : firstErr t.cols.length (colErr en t.cols) = C
      simp [f_ref43_Check, h1', h2']
      refine loop_upd t.cols.length (fun i => decide (colErr en t.cols i = 0)) (fun i (x : PV) => [(4, .int .i64 i), (5, x)]) (fun _ _ => h) .dead ?_ ?_ ?_ rfl rfl
      · intro i hi hz x ih
        have hw := wrap_succ i (by omega)
        simp only [decide_eq_true_eq] at hz
        have hc := ref_column hL en t.cols hok.cols (by omega) i hi false false []
        rw [hz] at hc
        simp [hi, hc, hw]
        simpa using ih _
      · intro i hi hz hk x
        have hf := firstErr_at (err := colErr en t.cols) hi (by simpa using hz) (fun k hk' => by simpa using hk k hk')
        rw [hC] at hf
        simp only [decide_eq_false_iff_not] at hz
        rw [← hf] at hz
        have hc := ref_column hL en t.cols hok.cols (by omega) i hi false false []
        rw [← hf] at hc
        simp [hi, hc, hz]
      · intro hz x
        have hf := firstErr_no (err := colErr en t.cols) (n := t.cols.length) (fun k hk => by simpa using hz k hk)
        rw [hC] at hf
        subst hf
        simp
        refine loop_upd t.rows.length (fun r => decide (rowErr en t.cols (t.rows.getD r []) = 0)) (fun r (x : PV × PV) => [(6, .int .i64 r), (7, x.1), (8, x.2)]) (fun _ _ => h) (.dead, .dead) ?_ ?_ ?_ rfl rfl
        · intro r hr hz x ih
          have hw := wrap_succ r (by omega)
          simp only [List.getD, List.getElem?_eq_getElem hr, Option.getD_some, decide_eq_true_eq] at hz
          have hlen : t.rows[r].length = t.cols.length := by
            unfold rowErr at hz
            by_cases hl : t.rows[r].length = t.cols.length
            · exact hl
            · rw [if_pos hl] at hz; simp at hz
          have hlen' : ((t.rows[r].length : Nat) : Int) = t.cols.length := by omega
          simp [hr, eRow, hlen']
          refine ref_check_row hL en t.cols hok.cols (by omega) t.rows r hr hlen _ _ _ _ _ _ ?_ (fun hne => absurd hz hne)
          intro _ y7 y8
          simp [hw]
          simpa using ih (_, _)
        · intro r hr hz hk x
          have hf := firstErr_at (err := fun r => rowErr en t.cols (t.rows.getD r [])) hr (by simpa using hz) (fun k hk' => by simpa using hk k hk')
          rw [hE] at hf
          simp only [List.getD, List.getElem?_eq_getElem hr, Option.getD_some, decide_eq_false_iff_not] at hz hf
          rw [hf]
          by_cases hlen : t.rows[r].length = t.cols.length
          · have hlen' : ((t.rows[r].length : Nat) : Int) = t.cols.length := by omega
            simp [hr, eRow, hlen']
            refine ref_check_row hL en t.cols hok.cols (by omega) t.rows r hr hlen _ _ _ _ _ _ (fun he => absurd he hz) ?_
            intro _ y7 y8
            simp
          · have hlen' : ¬ ((t.rows[r].length : Nat) : Int) = t.cols.length := by omega
            have he : rowErr en t.cols t.rows[r] = 9 := if_pos hlen
            simp [hr, eRow, hlen', he]
        · intro hz x
          have hf := firstErr_no (err := fun r => rowErr en t.cols (t.rows.getD r [])) (n := t.rows.length) (fun k hk => by simpa using hz k hk)
          rw [hE] at hf
          rw [hf]
          simp

theorem ref_text_row (en : List Enum) (cols : List Decl) (hok : ColsOK cols) (hcl : cols.length ≤ 384) (rows : List Row) (r : Nat) (hr : r < rows.length) (hlen : rows[r].length = cols.length) (hcell : ∀ c ∈ rows[r], I64 c.v) (hkind : ∀ c ∈ rows[r], c.kind = 0 ∨ c.kind = 1 ∨ c.kind = 2) (p1 v3 v4 v5 v6 v7 v8 v9 v10 x14 x15 x16 : PV) (g : Nat) (h : List PObj) {Q : PExit → St → Prop}
    (h0 : ∀ y14 y15 y16 g', Q (.exit 4) ⟨[.list false (en.map eEnum), p1, .loc 0 [.list false (cols.map eDecl), .list false (rows.map eRow)], v3, v4, v5, v6, v7, v8, v9, v10, .int .i64 r, .list true ((rowWords en cols rows[r] rows[r].length).map .str), .int .i64 cols.length, y14, y15, y16], [], g', h⟩) :
    wpL L f_ref43_Text_l1 ⟨[.list false (en.map eEnum), p1, .loc 0 [.list false (cols.map eDecl), .list false (rows.map eRow)], v3, v4, v5, v6, v7, v8, v9, v10, .int .i64 r, .list true [], .int .i64 0, x14, x15, x16], [], g, h⟩ Q := by
  obtain ⟨row, hrow⟩ : ∃ row, row = rows[r] := ⟨_, rfl⟩
  rw [← hrow] at h0 hlen hcell hkind
  rw [hlen] at h0
  refine loop_updG cols.length (fun _ => true) (fun i (x : (PV × PV × PV) × Nat) => [(12, .list true ((rowWords en cols row i).map .str)), (13, .int .i64 i), (14, x.1.1), (15, x.1.2.1), (16, x.1.2.2)]) (fun _ x => x.2) (fun _ _ => h) ((x14, x15, x16), g) ?_ ?_ ?_ rfl rfl rfl
  · intro i hi _ x ih
    have hw := wrap_succ i (by omega)
    have hi' : i < row.length := by omega
    have hi2 : i < rows[r].length := by rw [← hrow]; exact hi'
    have hri : rows[r][i] = row[i] := by simp [hrow]
    have hb : i ≤ 2147483647 := by omega
    have hc := ref_valText hL en cols[i].type row[i].v (hok.at hi) (hcell _ (List.getElem_mem hi')) false []
    have hk := hkind _ (List.getElem_mem hi')
    have hs := rowWords_succ en cols row i
    simp only [List.getD, List.getElem?_eq_getElem hi, List.getElem?_eq_getElem hi', Option.getD_some] at hs
    have hcw : cellWord en cols[i].type row[i] = if row[i].kind = 0 then [45] else if row[i].kind = 2 then [63] else (valText en cols[i].type row[i].v).1 := rfl
    rw [hcw] at hs
    rcases hk with hk | hk | hk
    · rw [if_pos hk] at hs
      simp [hi, hr, hi2, eRow, hri, hk, hw, hb]
      simpa [hs] using ih ((_, _, _), _)
    · rw [if_neg (by omega), if_neg (by omega)] at hs
      simp [hi, hr, hi2, eRow, hri, hk, hc, hw, hb]
      simpa [hs] using ih ((_, _, _), _)
    · rw [if_neg (by omega), if_pos hk] at hs
      simp [hi, hr, hi2, eRow, hri, hk, hw, hb]
      simpa [hs] using ih ((_, _, _), _)
  · intro i hi hz; simp at hz
  · intro _ x
    simp
    exact h0 _ _ _ _

theorem ref_text (en : List Enum) (t : Trace) (hok : TrOK t) (hb : checkErr en t = 0 → (bodyText en t).length ≤ 140737488355328) (o : Bool) (h : List PObj) : callL L 65 [.list o (en.map eEnum), eTrace t] h = some (.tuple [.str (textOf en t).1, .int .i64 (textOf en t).2], h) := by
  refine callL_wp (hL 65 _ rfl) rfl ?_
  have hck := ref_check hL en t hok false []
  by_cases hc : checkErr en t = 0
  · have hb := hb hc
    have htx : textOf en t = (bodyText en t, 0) := if_pos hc
    rw [htx]
    have hv := valid_of hc
    have hcl := hv.cols
    have hrl := hv.rows
    have hc3 : ∀ r ∈ t.rows, r.length = t.cols.length := fun r hr => (hv.row r hr).1
    have hkind : ∀ r ∈ t.rows, ∀ c ∈ r, c.kind = 0 ∨ c.kind = 1 ∨ c.kind = 2 := by
      intro r hr c hcr
      obtain ⟨k, hk, rfl⟩ := List.mem_iff_getElem.1 hcr
      have h3 := hc3 r hr
      have := (hv.row r hr).2 k hk (by omega)
      unfold cellErr at this
      split at this
      · simp at this
      · rename_i hn
        simp only [not_or, not_and, Decidable.not_not] at hn
        by_cases q0 : r[k].kind = 0
        · exact .inl q0
        · by_cases q1 : r[k].kind = 1
          · exact .inr (.inl q1)
          · exact .inr (.inr (hn.2 q0 q1))
    simp [f_ref43_Text, hck, hc]
    refine loop_upd t.cols.length (fun _ => true) (fun i (x : PV) => [(6, .list true ((names (t.cols.take i)).map .str)), (7, .list true ((typeNames en (t.cols.take i)).map .str)), (8, .int .i64 i), (9, x)]) (fun _ _ => h) .dead ?_ ?_ ?_ rfl rfl
    · intro i hi _ x ih
      have hw := wrap_succ i (by omega)
      have hn := ref_name hL en t.cols[i].type (hok.cols.at hi) false []
      have hb : i ≤ 2147483647 := by omega
      have hmin : min i t.cols.length = i := by omega
      have hs1 := names_succ hi
      have hs2 := typeNames_succ en hi
      simp [hi, hn, hw, hb, hmin]
      simpa [hs1, hs2] using ih _
    · intro i hi hz; simp at hz
    · intro _ x
      unfold bodyText at hb
      simp only [List.length_append] at hb
      have hl1 := ref_line hL (names t.cols) (by omega) (by simp; omega) false []
      have hl2 := ref_line hL (typeNames en t.cols) (by omega) (by simp; omega) false []
      obtain ⟨lns, hlns⟩ : ∃ lns, lns = t.rows.map fun r => lineText (rowWords en t.cols r r.length) := ⟨_, rfl⟩
      have hbt : bodyText en t = lineText (names t.cols) ++ lineText (typeNames en t.cols) ++ lns.flatten := by rw [hlns]; rfl
      rw [← hlns] at hb
      have hll : lns.length = t.rows.length := by rw [hlns]; simp
      have hlr : ∀ r (hr : r < t.rows.length), lns[r]? = some (lineText (rowWords en t.cols t.rows[r] t.rows[r].length)) := by
        intro r hr; rw [hlns]; simp [hr]
      have hpre : ∀ k, (lns.take k).flatten.length ≤ lns.flatten.length := fun k => flatten_take_le k
      have hadd : (lineText (names t.cols)).length + (lineText (typeNames en t.cols)).length ≤ 4611686018427387904 := by omega
      have hne : lineText (names t.cols) ≠ [] := by simp [lineText]
      generalize lineText (names t.cols) = X1 at *
      generalize lineText (typeNames en t.cols) = X2 at *
      obtain ⟨acc, hacc⟩ : ∃ acc : Nat → List PV, ∀ r, acc r = ofBytes (X1 ++ X2 ++ (lns.take r).flatten) := ⟨_, fun _ => rfl⟩
      have hemp : (X1 ++ X2).isEmpty = false := by cases X1 <;> simp_all
      have hob : ofBytes (X1 ++ X2) = acc 0 := by rw [hacc]; simp
      have hsz : X1.length + X2.length ≤ 140737488355328 := by omega
      have hX1e : X1.isEmpty = false := by cases X1 <;> simp_all
      simp [hl1, hl2, hadd, hsz, hob, hne, hemp, hX1e]
      refine loop_updG t.rows.length (fun _ => true) (fun r (x : (PV × PV × PV × PV × PV) × Nat) => [(10, .list true (acc r)), (11, .int .i64 r), (12, x.1.1), (13, x.1.2.1), (14, x.1.2.2.1), (15, x.1.2.2.2.1), (16, x.1.2.2.2.2)]) (fun _ x => x.2) (fun _ _ => h) ((.dead, .dead, .dead, .dead, .dead), 1) ?_ ?_ ?_ rfl rfl rfl
      · intro r hr _ x ih
        have hw := wrap_succ r (by omega)
        have hr3 := hc3 _ (List.getElem_mem hr)
        have hlr' := hlr r hr
        have hts : lns.take (r + 1) = lns.take r ++ [lineText (rowWords en t.cols t.rows[r] t.rows[r].length)] := by
          rw [take_succ' (by omega)]
          rw [List.getElem?_eq_getElem (by omega)] at hlr'
          simp at hlr'; rw [hlr']
        have hp := hpre (r + 1)
        rw [hts] at hp
        simp only [List.flatten_append, List.length_append, List.flatten_cons, List.flatten_nil, List.append_nil] at hp
        have hl3 := ref_line hL (rowWords en t.cols t.rows[r] t.rows[r].length) (by omega) (by simp; omega) false []
        have hau : acc (r + 1) = acc r ++ ofBytes (lineText (rowWords en t.cols t.rows[r] t.rows[r].length)) := by
          rw [hacc, hacc, hts, ofBytes_append]; simp
        have hal : (acc r).length + (lineText (rowWords en t.cols t.rows[r] t.rows[r].length)).length ≤ 140737488355328 := by
          rw [hacc]; simp only [ofBytes_len, List.length_append]; omega
        have hah : headOk 1 (acc r) = true := by rw [hacc]; exact ofBytes_head _
        simp [hr]
        refine ref_text_row hL en t.cols hok.cols (by omega) t.rows r hr hr3 (hok.cell _ (List.getElem_mem hr)) (hkind _ (List.getElem_mem hr)) _ _ _ _ _ _ _ _ _ _ _ _ _ _ ?_
        intro y14 y15 y16 g'
        simp [hl3, hw, hal, hah]
        have := ih ((.list true ((rowWords en t.cols t.rows[r] t.rows[r].length).map .str), .int .i64 t.cols.length, y14, y15, y16), g')
        rw [hau] at this
        simpa using this
      · intro i hi hz; simp at hz
      · intro _ x
        have htk : lns.take t.rows.length = lns := by rw [← hll]; simp
        have hbo : bytesOf (acc t.rows.length) = some (X1 ++ X2 ++ lns.flatten) := by rw [hacc, htk, bytesOf_of]
        rw [hbt]
        simp [hbo]
  · have htx : textOf en t = ([], checkErr en t) := if_neg hc
    rw [htx]
    generalize checkErr en t = e at *
    simp [f_ref43_Text, hck, hc]

theorem trace_text_err' (en : List Enum) (t : Trace) (hok : TrOK t) (hc : ¬ checkErr en t = 0) (o : Bool) (h : List PObj) : ∃ h', callL L 6 [.list o (en.map eEnum), eTrace t] h = some (.tuple [.str [], .int .i64 (checkErr en t)], h') := by
  have hLc : ∀ k f, Lc k = some f → L k = some f := fun k f hk => hL k f (LZ_c k f hk)
  suffices H : ∃ r, callL L 6 [.list o (en.map eEnum), eTrace t] h = some r ∧ r.1 = .tuple [.str [], .int .i64 (checkErr en t)] by
    obtain ⟨⟨v, h'⟩, h1, h2⟩ := H
    exact ⟨h', by rw [h1]; simp at h2; rw [h2]⟩
  refine callL_wpP (hLc 6 _ rfl) rfl ?_
  obtain ⟨h', hck⟩ := trace_check hLc en t hok false []
  generalize checkErr en t = e at *
  simp [f_trace_Text, hck, hc, endP]

theorem law_texts (en : List Enum) (t : Trace) (hok : TrOK t) (hln : Lens t) (hb : checkErr en t = 0 → (bodyText en t).length ≤ 140737488355328) (o : Bool) (h : List PObj) : callL L 63 [.list o (en.map eEnum), eTrace t] h = some (.bool true, h) := by
  have hLc : ∀ k f, Lc k = some f → L k = some f := fun k f hk => hL k f (LZ_c k f hk)
  have haw := law_awake hLc []
  have hlt := law_light hLc t hln.row hok.cols.1 hok.rows []
  refine callL_wp (hL 63 _ rfl) rfl ?_
  cases hlight : light t with
  | false =>
    rw [hlight] at hlt
    simp [f_law43_TraceTexts, hlt, haw]
  | true =>
    rw [hlight] at hlt
    obtain ⟨h4, hck⟩ := trace_check hLc en t hok false []
    have hrc := ref_check hL en t hok false []
    have hrt := ref_text hL en t hok hb false []
    have htx : ∃ h', callL L 6 [.list false (en.map eEnum), eTrace t] [] = some (.tuple [.str (textOf en t).1, .int .i64 (textOf en t).2], h') := by
      by_cases hc : checkErr en t = 0
      · exact trace_text hLc en t hok (hb hc) false []
      · have e : textOf en t = ([], checkErr en t) := if_neg hc
        rw [e]
        exact trace_text_err' hL en t hok hc false []
    obtain ⟨h5, htx⟩ := htx
    generalize textOf en t = R at htx hrt
    generalize checkErr en t = e at hck hrc
    simp [f_law43_TraceTexts, hlt, htx, hrt, hck, hrc, haw]
end

/-! ### How long a text is -/

theorem join_lenB (B : Nat) : ∀ (ws : List Str), (∀ w ∈ ws, w.length ≤ B) → (Go.Lib.join ws [32]).length ≤ ws.length * (B + 1)
  | [], _ => by simp [Go.Lib.join_nil]
  | [w], h => by rw [Go.Lib.join_one]; have := h w (by simp); simp; omega
  | w :: x :: r, h => by
    rw [join_cons2]
    have h1 := h w (by simp)
    have h2 := join_lenB B (x :: r) (fun y hy => h y (List.mem_cons_of_mem _ hy))
    simp only [List.length_append, List.length_cons, Nat.add_mul, Nat.one_mul] at h2 ⊢
    omega
/-- The texts that a trace's text is made of. -/
structure Texts (en : List Enum) (B : Nat) : Prop where
  name : ∀ u ∈ en, u.name.length ≤ B
  tag : ∀ u ∈ en, ∀ s ∈ u.tags, s.length ≤ B

theorem body_lenB {en : List Enum} (hn : Texts en 1048576) {t : Trace} (h : checkErr en t = 0) : (bodyText en t).length ≤ 140737488355328 := by
  have hv := valid_of h
  have hcl := hv.cols
  have hrl := hv.rows
  have line : ∀ ws : List Str, (∀ w ∈ ws, w.length ≤ 1048576) → ws.length ≤ 384 → (lineText ws).length ≤ 402653569 := by
    intro ws hw hl
    have := join_lenB 1048576 ws hw
    unfold lineText
    simp only [List.length_append, List.length_cons, List.length_nil]
    have h2 : ws.length * (1048576 + 1) ≤ 384 * (1048576 + 1) := Nat.mul_le_mul_right _ hl
    omega
  have l1 := line (names t.cols) (by
    intro w hw
    obtain ⟨k, hk, rfl⟩ := List.mem_iff_getElem.1 hw
    have hk' : k < t.cols.length := by simpa using hk
    simp only [names, List.getElem_map]
    have := ident_len (hv.col k hk').1
    omega) (by simpa using hcl)
  have l2 := line (typeNames en t.cols) (by
    intro w hw
    obtain ⟨k, hk, rfl⟩ := List.mem_iff_getElem.1 hw
    have hk' : k < t.cols.length := by simpa using hk
    simp only [typeNames, List.getElem_map]
    cases hx : tyName en t.cols[k].type with
    | none => simp
    | some w =>
      rcases tyName_enum hx with ⟨_, rfl⟩ | ⟨_, rfl⟩ | ⟨j, hj, _, rfl⟩
      · simp
      · simp
      · exact hn.name _ (List.getElem_mem hj)) (by simpa using hcl)
  have l3 := flat_len' (t.rows.map fun r => lineText (rowWords en t.cols r r.length)) 402653569 (by
    intro x hx
    simp only [List.mem_map] at hx
    obtain ⟨r, hr, rfl⟩ := hx
    obtain ⟨r1, r2⟩ := hv.row r hr
    refine line _ ?_ (by simp; omega)
    intro w hw
    unfold rowWords at hw
    simp only [List.mem_map, List.mem_range] at hw
    obtain ⟨k, hk, rfl⟩ := hw
    have hk' : k < t.cols.length := by omega
    have e1 : t.cols.getD k default = t.cols[k] := by simp [List.getD, hk']
    have e2 : r.getD k default = r[k] := by simp [List.getD, hk]
    rw [e1, e2]
    have ht := (hv.col k hk').2.1
    have hc := r2 k hk hk'
    unfold cellWord
    split
    · simp
    · rename_i k0
      split
      · simp
      · rename_i k2
        unfold cellErr at hc
        split at hc
        · simp at hc
        · rename_i h1
          split at hc
          · simp at hc
          · rename_i h2
            simp only [not_or, not_and, Decidable.not_not] at h1
            have k1 : r[k].kind = 1 := by
              by_cases e : r[k].kind = 1
              · exact e
              · exact absurd (h1.2 k0 e) k2
            have hh : tyHas en t.cols[k].type r[k].v = true := by
              cases hx : tyHas en t.cols[k].type r[k].v with
              | true => rfl
              | false => exact absurd ⟨k1, hx⟩ h2
            rw [valText_ok ht hh]
            obtain ⟨w, hw⟩ : ∃ w, tyName en t.cols[k].type = some w := by
              cases hx : tyName en t.cols[k].type with
              | none => rw [hx] at ht; simp at ht
              | some w => exact ⟨w, rfl⟩
            generalize r[k].v = v at hh ⊢
            generalize t.cols[k].type = ty at hh hw ⊢
            rcases tyName_enum hw with ⟨rfl, _⟩ | ⟨rfl, _⟩ | ⟨j, hj, rfl, _⟩
            · rw [if_pos rfl]
              cases (v == 1) <;> simp [boolText]
            · rw [if_neg (by decide), if_pos rfl]
              have hr : -32768 ≤ v ∧ v ≤ 32767 := by simpa [tyHas] using hh
              simp only
              unfold Go.Lib.itoa
              split
              · have := dec_len 5 v.natAbs (by omega)
                simp; omega
              · have := dec_len 5 v.toNat (by omega)
                omega
            · rw [if_neg (by omega), if_neg (by omega), enumAt_in hj]
              simp only [Option.bind_some]
              cases hg : en[j].tags[v.toNat]? with
              | none => simp
              | some s => exact hn.tag _ (List.getElem_mem hj) s (List.mem_of_getElem? hg))
  unfold bodyText
  simp only [List.length_append, List.length_map] at l3 ⊢
  have h2 : t.rows.length * 402653569 ≤ 4096 * 402653569 := Nat.mul_le_mul_right _ hrl
  omega
end PI.Tr
