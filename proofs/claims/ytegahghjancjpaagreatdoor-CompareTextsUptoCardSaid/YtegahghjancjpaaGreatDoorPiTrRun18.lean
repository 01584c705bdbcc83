import Derived.Test.YtegahghjancjpaaGreatDoorPiTrLaw1
set_option maxRecDepth 100000
set_option linter.unusedSimpArgs false
set_option linter.unusedVariables false
namespace PI.Tr
theorem parse_snoc (b : UInt8) : ∀ (l : Str) (acc u : Nat), Go.Lib.parseUint10 acc l = .ok u → 48 ≤ b.toNat → b.toNat ≤ 57 → u < 100000000 → Go.Lib.parseUint10 acc (l ++ [b]) = .ok (u * 10 + (b.toNat - 48))
  | [], acc, u, h, h1, h2, h3 => by
    simp only [Go.Lib.parseUint10] at h
    injection h with h
    subst h
    simp only [List.nil_append, Go.Lib.parseUint10]
    rw [if_pos ⟨h1, h2⟩, if_neg (by omega), if_neg (by omega)]
  | c :: r, acc, u, h, h1, h2, h3 => by
    simp only [Go.Lib.parseUint10] at h
    simp only [List.cons_append, Go.Lib.parseUint10]
    split at h
    · rename_i hc
      rw [if_pos hc]
      split at h
      · cases h
      · rename_i hc2
        rw [if_neg hc2]
        split at h
        · cases h
        · rename_i hc3
          rw [if_neg hc3]
          exact parse_snoc b r _ u h h1 h2 h3
    · cases h
theorem dig_nat (k : Nat) (h : k < 10) : (UInt8.ofNat (48 + k)).toNat = 48 + k := by
  simp; omega
theorem parse_dec : ∀ (u : Nat), u < 100000000 → Go.Lib.parseUint10 0 (Go.Lib.decDigits u) = .ok u := by
  intro u
  induction u using Nat.strongRecOn with
  | _ u ih =>
    intro hu
    rw [Go.Lib.decDigits]
    split
    · rename_i h
      have := dig_nat u h
      simp only [Go.Lib.parseUint10]
      rw [if_pos (by omega), if_neg (by omega), if_neg (by omega)]
      congr 1; omega
    · rename_i h
      have hd := dig_nat (u % 10) (by omega)
      rw [parse_snoc _ _ 0 (u / 10) (ih (u / 10) (by omega) (by omega)) (by omega) (by omega) (by omega)]
      congr 1; omega
theorem dec_digits : ∀ (u : Nat), ∀ b ∈ Go.Lib.decDigits u, 48 ≤ b.toNat ∧ b.toNat ≤ 57 := by
  intro u
  induction u using Nat.strongRecOn with
  | _ u ih =>
    intro b hb
    rw [Go.Lib.decDigits] at hb
    split at hb
    · rename_i h
      have := dig_nat u h
      simp only [List.mem_singleton] at hb
      subst hb; omega
    · rename_i h
      have hd := dig_nat (u % 10) (by omega)
      rcases List.mem_append.1 hb with hb | hb
      · exact ih (u / 10) (by omega) b hb
      · simp only [List.mem_singleton] at hb
        subst hb; omega
theorem dec_ne (u : Nat) : Go.Lib.decDigits u ≠ [] := by
  rw [Go.Lib.decDigits]
  split <;> simp
theorem atoi_itoa (v : Int) (h1 : -32768 ≤ v) (h2 : v ≤ 32767) : Go.Lib.atoiAll (Go.Lib.itoa v) = .ok v := by
  unfold Go.Lib.itoa
  by_cases hv : v < 0
  · rw [if_pos hv]
    have hp := parse_dec v.natAbs (by omega)
    simp only [Go.Lib.atoiAll, Go.Lib.parseMag]
    have e : (45 : UInt8).toNat = 45 := rfl
    simp only [e, or_true, if_true, dec_ne, if_false, hp]
    rw [if_neg (by simp), if_neg (by simp; omega)]
    congr 1; omega
  · rw [if_neg hv]
    have hp := parse_dec v.toNat (by omega)
    have hdg := dec_digits v.toNat
    have hne := dec_ne v.toNat
    cases hl : Go.Lib.decDigits v.toNat with
    | nil => exact absurd hl hne
    | cons c r =>
      rw [hl] at hp hdg
      have hc := hdg c (List.mem_cons_self ..)
      simp only [Go.Lib.atoiAll, Go.Lib.parseMag]
      rw [if_neg (show ¬ (c.toNat = 43 ∨ c.toNat = 45) by omega), if_neg (by simp), hp]
      have n45 : ¬ c.toNat = 45 := by omega
      simp only [n45, not_false_eq_true, true_and, false_and, if_false]
      rw [if_neg (by omega)]
      congr 1; omega
theorem intOf_itoa (v : Int) (h1 : -32768 ≤ v) (h2 : v ≤ 32767) : intOf (Go.Lib.itoa v) = some v := by
  unfold intOf
  rw [atoi_itoa v h1 h2]
  simp [h1, h2]
def Clean (w : Str) : Prop := w ≠ [] ∧ (32 : UInt8) ∉ w ∧ (10 : UInt8) ∉ w
theorem split_join (c : UInt8) : ∀ (ws : List Str), ws ≠ [] → (∀ w ∈ ws, c ∉ w) → split c (Go.Lib.join ws [c]) = ws
  | [], h, _ => absurd rfl h
  | [w], _, h => by rw [Go.Lib.join_one]; exact split_no c w (h w (by simp))
  | w :: x :: r, _, h => by
    rw [join_cons2, split_cut c w _ (h w (by simp)), split_join c (x :: r) (by simp) (fun y hy => h y (List.mem_cons_of_mem _ hy))]
theorem words_join (ws : List Str) (h : ∀ w ∈ ws, Clean w) : wordsOf (Go.Lib.join ws [32]) = ws := by
  cases ws with
  | nil => rfl
  | cons w r =>
    unfold wordsOf
    have hne : Go.Lib.join (w :: r) [32] ≠ [] := by
      rw [Go.Lib.join_cons]
      intro e
      exact (h w (by simp)).1 (List.append_eq_nil_iff.1 e).1
    rw [if_neg hne]
    exact split_join 32 _ (by simp) (fun y hy => (h y hy).2.1)
theorem join_no (c d : UInt8) (hcd : c ≠ d) : ∀ (ws : List Str), (∀ w ∈ ws, c ∉ w) → c ∉ Go.Lib.join ws [d]
  | [], _ => by simp [Go.Lib.join_nil]
  | [w], h => by rw [Go.Lib.join_one]; exact h w (by simp)
  | w :: x :: r, h => by
    rw [join_cons2]
    simp only [List.mem_append, List.mem_cons, not_or]
    exact ⟨h w (by simp), hcd, join_no c d hcd (x :: r) (fun y hy => h y (List.mem_cons_of_mem _ hy))⟩
theorem ident_clean {w : Str} (h : ident w = true) : Clean w := by
  unfold ident at h
  simp only [Bool.and_eq_true, decide_eq_true_eq, List.all_eq_true] at h
  obtain ⟨⟨⟨⟨h1, _⟩, _⟩, h2⟩, _⟩ := h
  have no : ∀ b : UInt8, inner b.toNat = false → b ∉ w := fun b hb hm => by
    have := h2 b hm
    rw [hb] at this; simp at this
  exact ⟨h1, no 32 (by decide), no 10 (by decide)⟩
theorem itoa_clean (v : Int) : Clean (Go.Lib.itoa v) := by
  have no : ∀ (u : Nat) (b : UInt8), b.toNat < 48 → b ∉ Go.Lib.decDigits u := fun u b hb hm => by have := dec_digits u b hm; omega
  unfold Go.Lib.itoa
  split
  · exact ⟨by simp, by simp only [List.mem_cons, not_or]; exact ⟨by decide, no _ _ (by decide)⟩, by simp only [List.mem_cons, not_or]; exact ⟨by decide, no _ _ (by decide)⟩⟩
  · exact ⟨dec_ne _, no _ _ (by decide), no _ _ (by decide)⟩
end PI.Tr
namespace PI.Tr
structure Named (en : List Enum) : Prop where
  few : en.length ≤ 30
  ident : ∀ u ∈ en, ident u.name = true
  nodup : (en.map (·.name)).Nodup
  tags : ∀ u ∈ en, u.tags.length ≤ 30 ∧ (∀ s ∈ u.tags, PI.Tr.ident s = true) ∧ u.tags.Nodup
theorem keyword_ident {s : Str} (h : s ∈ keywords) : PI.Tr.ident s = false := by
  unfold PI.Tr.ident
  have : keyword s = true := by unfold keyword; simpa using h
  simp [this]
theorem clean_bool : Clean [98, 111, 111, 108] := by refine ⟨by simp, by decide, by decide⟩
theorem clean_int : Clean [105, 110, 116] := by refine ⟨by simp, by decide, by decide⟩
theorem tyName_enum {en : List Enum} {t : Int} {w : Str} (h : tyName en t = some w) : (t = 1 ∧ w = [98, 111, 111, 108]) ∨ (t = 2 ∧ w = [105, 110, 116]) ∨ ∃ k : Nat, ∃ hk : k < en.length, t = k + 3 ∧ w = en[k].name := by
  unfold tyName at h
  split at h
  · rename_i e; simp at h; exact .inl ⟨e, h.symm⟩
  · split at h
    · rename_i e; simp at h; exact .inr (.inl ⟨e, h.symm⟩)
    · rcases ty_cases t with h3 | ⟨k, rfl⟩
      · rw [enumAt_lt h3] at h; simp at h
      · by_cases hk : k < en.length
        · rw [enumAt_in hk] at h
          simp at h
          exact .inr (.inr ⟨k, hk, rfl, h.symm⟩)
        · rw [enumAt_out (by omega)] at h; simp at h
theorem tyName_clean {en : List Enum} (hn : Named en) {t : Int} {w : Str} (h : tyName en t = some w) : Clean w := by
  rcases tyName_enum h with ⟨_, rfl⟩ | ⟨_, rfl⟩ | ⟨k, hk, _, rfl⟩
  · exact clean_bool
  · exact clean_int
  · exact ident_clean (hn.ident _ (List.getElem_mem hk))
theorem typeOf_tyName {en : List Enum} (hn : Named en) {t : Int} {w : Str} (h : tyName en t = some w) : typeOf en w = some t := by
  rcases tyName_enum h with ⟨rfl, rfl⟩ | ⟨rfl, rfl⟩ | ⟨k, hk, rfl, rfl⟩
  · simp [typeOf]
  · simp [typeOf]
  · have hid := hn.ident _ (List.getElem_mem hk)
    have n1 : en[k].name ≠ [98, 111, 111, 108] := by
      intro e; rw [e] at hid
      rw [keyword_ident (by decide)] at hid; simp at hid
    have n2 : en[k].name ≠ [105, 110, 116] := by
      intro e; rw [e] at hid
      rw [keyword_ident (by decide)] at hid; simp at hid
    have hf : en.findIdx? (fun u => decide (u.name = en[k].name)) = some k := by
      refine findIdx_at hk (by simp) ?_
      intro j hj
      have hd := hn.nodup
      unfold List.Nodup at hd
      rw [List.pairwise_iff_getElem] at hd
      have := hd j k (by simp; omega) (by simpa using hk) hj
      simpa using this
    unfold typeOf
    rw [if_neg n1, if_neg n2, hf]
    simp
theorem valText_ok {en : List Enum} {t v : Int} (hn : (tyName en t).isNone = false) (hh : tyHas en t v = true) : valText en t v = if t = 1 then (boolText (v == 1), 0) else if t = 2 then (Go.Lib.itoa v, 0) else (((enumAt en t).bind fun u => u.tags[v.toNat]?).getD [], 0) := by
  unfold valText
  rw [if_neg (by rw [hn]; simp), if_neg (by rw [hh]; simp)]
theorem val_round {en : List Enum} (hn : Named en) {t v : Int} (ht : (tyName en t).isNone = false) (hh : tyHas en t v = true) :
    Clean (valText en t v).1 ∧ (valText en t v).1 ≠ [45] ∧ (valText en t v).1 ≠ [63] ∧ valParse en t (valText en t v).1 = (v, 0) := by
  have hv := valText_ok ht hh
  obtain ⟨w, hw⟩ : ∃ w, tyName en t = some w := by
    cases hx : tyName en t with
    | none => rw [hx] at ht; simp at ht
    | some w => exact ⟨w, rfl⟩
  have ht' : ¬ (tyName en t).isNone = true := by rw [ht]; simp
  rcases tyName_enum hw with ⟨rfl, _⟩ | ⟨rfl, _⟩ | ⟨k, hk, rfl, _⟩
  · rw [if_pos rfl] at hv
    have hr : 0 ≤ v ∧ v < 2 := by simpa [tyHas, tySize] using hh
    have h0 : tyHas en 1 0 = true := by simp [tyHas, tySize]
    have h1 : tyHas en 1 1 = true := by simp [tyHas, tySize]
    have v0 := valText_ok ht h0
    have v1 := valText_ok ht h1
    rw [if_pos rfl] at v0 v1
    have hvp : ∀ s, valParse en 1 s = match (List.range 2).find? (fun v : Nat => decide ((valText en 1 v).2 = 0 ∧ (valText en 1 v).1 = s)) with | some v => ((v : Int), 0) | none => (0, 5) := by
      intro s; unfold valParse; rw [if_neg ht', if_neg (by decide)]; rfl
    have e2 : List.range 2 = [0, 1] := rfl
    rcases (show v = 0 ∨ v = 1 by omega) with rfl | rfl
    · rw [hv]
      refine ⟨⟨by decide, by decide, by decide⟩, by decide, by decide, ?_⟩
      rw [hvp, e2]
      have c0 : ((valText en 1 ((0 : Nat) : Int)).2 = 0 ∧ (valText en 1 ((0 : Nat) : Int)).1 = (boolText ((0 : Int) == 1), (0 : Int)).1) := by
        have : ((0 : Nat) : Int) = 0 := rfl
        rw [this, v0]; simp
      simp only [List.find?_cons, decide_eq_true c0]
      rfl
    · rw [hv]
      refine ⟨⟨by decide, by decide, by decide⟩, by decide, by decide, ?_⟩
      rw [hvp, e2]
      have c0 : ¬ ((valText en 1 ((0 : Nat) : Int)).2 = 0 ∧ (valText en 1 ((0 : Nat) : Int)).1 = (boolText ((1 : Int) == 1), (0 : Int)).1) := by
        have : ((0 : Nat) : Int) = 0 := rfl
        rw [this, v0]; decide
      have c1 : ((valText en 1 ((1 : Nat) : Int)).2 = 0 ∧ (valText en 1 ((1 : Nat) : Int)).1 = (boolText ((1 : Int) == 1), (0 : Int)).1) := by
        have : ((1 : Nat) : Int) = 1 := rfl
        rw [this, v1]; simp
      simp only [List.find?_cons, decide_eq_false c0, decide_eq_true c1]
      rfl
  · rw [if_neg (by decide), if_pos rfl] at hv
    have hr : -32768 ≤ v ∧ v ≤ 32767 := by simpa [tyHas] using hh
    rw [hv]
    have hc := itoa_clean v
    refine ⟨hc, ?_, ?_, ?_⟩
    · intro e
      have := atoi_itoa v hr.1 hr.2
      simp only at e
      rw [e] at this
      simp [Go.Lib.atoiAll, Go.Lib.parseMag] at this
    · intro e
      have := atoi_itoa v hr.1 hr.2
      simp only at e
      rw [e] at this
      simp [Go.Lib.atoiAll, Go.Lib.parseMag, Go.Lib.parseUint10] at this
    · unfold valParse
      rw [if_neg ht', if_pos rfl]
      simp only [intOf_itoa v hr.1 hr.2]
  · have n1 : ¬ (k : Int) + 3 = 1 := by omega
    have n2 : ¬ (k : Int) + 3 = 2 := by omega
    have hts := hn.tags _ (List.getElem_mem hk)
    have hsz : tySize en ((k : Int) + 3) = en[k].tags.length := by unfold tySize; rw [if_neg n1, if_neg n2, enumAt_in hk]; rfl
    have htx : ∀ u : Nat, u < en[k].tags.length → valText en ((k : Int) + 3) u = (en[k].tags.getD u [], 0) := by
      intro u hu
      have h1 : tyHas en ((k : Int) + 3) u = true := by unfold tyHas; rw [if_neg n2, hsz]; simp; omega
      rw [valText_ok ht h1, if_neg n1, if_neg n2, enumAt_in hk]
      simp [List.getD]
    obtain ⟨u, rfl⟩ : ∃ u : Nat, v = u := by
      unfold tyHas at hh
      rw [if_neg n2] at hh
      simp at hh
      exact ⟨v.toNat, by omega⟩
    have hu : u < en[k].tags.length := by
      unfold tyHas at hh
      rw [if_neg n2, hsz] at hh
      simp at hh
      omega
    rw [htx u hu]
    have hg : en[k].tags.getD u [] = en[k].tags[u] := by simp [List.getD, hu]
    simp only [hg]
    have hid := hts.2.1 _ (List.getElem_mem hu)
    refine ⟨ident_clean hid, ?_, ?_, ?_⟩
    · intro e; rw [e] at hid; revert hid; decide
    · intro e; rw [e] at hid; revert hid; decide
    · unfold valParse
      rw [if_neg ht', if_neg n2, hsz]
      have hf := find_range (n := en[k].tags.length) (p := fun v : Nat => decide ((valText en ((k : Int) + 3) v).2 = 0 ∧ (valText en ((k : Int) + 3) v).1 = en[k].tags[u])) hu (by simp only [htx u hu, hg]; simp) (by
        intro j hj
        have hjl : j < en[k].tags.length := by omega
        have hd := hts.2.2
        unfold List.Nodup at hd
        rw [List.pairwise_iff_getElem] at hd
        have := hd j u hjl hu hj
        simp [htx j hjl, List.getD, hjl, this])
      rw [hf]
theorem cell_round {en : List Enum} (hn : Named en) {t : Int} {c : Cell} (ht : (tyName en t).isNone = false) (hc : cellErr en t c = 0) : Clean (cellWord en t c) ∧ parseCell en t (cellWord en t c) = some c := by
  obtain ⟨k, v⟩ := c
  unfold cellErr at hc
  split at hc
  · simp at hc
  · rename_i h1
    simp only [not_or, not_and, Decidable.not_not] at h1
    by_cases k0 : k = 0
    · subst k0
      have hv : v = 0 := h1.1 (by simp)
      subst hv
      have e : cellWord en t ⟨0, 0⟩ = [45] := by simp [cellWord]
      rw [e]
      exact ⟨⟨by decide, by decide, by decide⟩, by simp [parseCell]⟩
    · by_cases k2 : k = 2
      · subst k2
        have hv : v = 0 := h1.1 (by simp)
        subst hv
        have e : cellWord en t ⟨2, 0⟩ = [63] := by simp [cellWord]
        rw [e]
        exact ⟨⟨by decide, by decide, by decide⟩, by simp [parseCell]⟩
      · have k1 : k = 1 := by
          by_cases e : k = 1
          · exact e
          · exact absurd (h1.2 k0 e) k2
        subst k1
        split at hc
        · simp at hc
        · rename_i h2
          have hh : tyHas en t v = true := by
            cases hx : tyHas en t v with
            | true => rfl
            | false => exact absurd ⟨rfl, hx⟩ h2
          obtain ⟨a1, a2, a3, a4⟩ := val_round hn ht hh
          have hw : cellWord en t ⟨1, v⟩ = (valText en t v).1 := by simp [cellWord]
          rw [hw]
          refine ⟨a1, ?_⟩
          unfold parseCell
          rw [if_neg a2, if_neg a3, a4]
          simp
end PI.Tr
namespace PI.Tr
structure Valid (en : List Enum) (t : Trace) : Prop where
  cols : t.cols.length ≤ 384
  rows : t.rows.length ≤ 4096
  col : ∀ k (hk : k < t.cols.length), PI.Tr.ident t.cols[k].name = true ∧ (tyName en t.cols[k].type).isNone = false ∧ t.cols[k].clock = [] ∧ t.cols[k].name ∉ names (t.cols.take k)
  row : ∀ r ∈ t.rows, r.length = t.cols.length ∧ ∀ k (hk : k < r.length) (hk' : k < t.cols.length), cellErr en t.cols[k].type r[k] = 0
theorem valid_of {en : List Enum} {t : Trace} (h : checkErr en t = 0) : Valid en t := by
  unfold checkErr at h
  split at h
  · simp at h
  · rename_i h1
    split at h
    · rename_i h2; exact absurd h h2
    · rename_i h2
      simp only [ne_eq, Decidable.not_not] at h2
      refine ⟨by omega, by omega, ?_, ?_⟩
      · intro k hk
        have := firstErr_zero h2 k hk
        unfold colErr at this
        rw [List.getElem?_eq_getElem hk] at this
        simp only at this
        cases hi : PI.Tr.ident t.cols[k].name with
        | false => rw [hi] at this; simp at this
        | true =>
          rw [hi, if_neg (by simp)] at this
          cases ht : (tyName en t.cols[k].type).isNone with
          | true => rw [ht] at this; simp at this
          | false =>
            rw [ht, if_neg (by simp)] at this
            by_cases hc : 0 < t.cols[k].clock.length
            · rw [if_pos hc] at this; simp at this
            · rw [if_neg hc] at this
              by_cases hm : t.cols[k].name ∈ names (t.cols.take k)
              · rw [if_pos hm] at this; simp at this
              · exact ⟨rfl, rfl, List.eq_nil_of_length_eq_zero (by omega), hm⟩
      · intro r hr
        obtain ⟨j, hj, rfl⟩ := List.mem_iff_getElem.1 hr
        have := firstErr_zero h j hj
        simp only [List.getD, List.getElem?_eq_getElem hj, Option.getD_some] at this
        unfold rowErr at this
        split at this
        · simp at this
        · rename_i h3
          refine ⟨by simpa using h3, ?_⟩
          intro k hk hk'
          have := firstErr_zero this k hk
          simpa [List.getD, hk, hk'] using this
theorem line_round {en : List Enum} (hn : Named en) {t : Trace} (hv : Valid en t) {r : Row} (hr : r ∈ t.rows) {rows : List Row} (hrows : rows.length < 4096) :
    (∀ w ∈ rowWords en t.cols r r.length, Clean w) ∧ lineErr en t.cols rows (rowWords en t.cols r r.length) = 0 ∧ lineCells en t.cols (rowWords en t.cols r r.length) (rowWords en t.cols r r.length).length = r := by
  obtain ⟨hl, hc⟩ := hv.row r hr
  have key : ∀ k (hk : k < r.length), Clean (cellWord en (t.cols.getD k default).type (r.getD k default)) ∧ cellAt en t.cols (rowWords en t.cols r r.length) k = some r[k] := by
    intro k hk
    have hk' : k < t.cols.length := by omega
    have := cell_round hn (hv.col k hk').2.1 (hc k hk hk')
    have e1 : t.cols.getD k default = t.cols[k] := by simp [List.getD, hk']
    have e2 : r.getD k default = r[k] := by simp [List.getD, hk]
    rw [e1, e2]
    refine ⟨this.1, ?_⟩
    unfold cellAt
    have e3 : (rowWords en t.cols r r.length).getD k [] = cellWord en t.cols[k].type r[k] := by
      simp [List.getD, rowWords, hk, hk']
    rw [e1, e3]
    exact this.2
  refine ⟨?_, ?_, ?_⟩
  · intro w hw
    unfold rowWords at hw
    simp only [List.mem_map, List.mem_range] at hw
    obtain ⟨k, hk, rfl⟩ := hw
    exact (key k hk).1
  · unfold lineErr
    rw [if_neg (by omega), if_neg (by simp; omega)]
    refine firstErr_no ?_
    intro k hk
    rw [rowWords_len] at hk
    rw [(key k hk).2]; simp
  · rw [rowWords_len]
    apply List.ext_getElem (by simp)
    intro k h1 h2
    simp only [lineCells, List.getElem_map, List.getElem_range]
    rw [(key k h2).2]; rfl
theorem rows_round {en : List Enum} (hn : Named en) {t : Trace} (hv : Valid en t) : ∀ (rs rows : List Row) (n : Nat), 3 ≤ n → (rows ++ rs).length ≤ 4096 → (∀ r ∈ rs, r ∈ t.rows) →
    parseL en (rs.map (fun r => Go.Lib.join (rowWords en t.cols r r.length) [32]) ++ [[]]) n t.cols rows = (⟨t.cols, rows ++ rs⟩, 0, 0)
  | [], rows, n, hn3, hl, hm => by
    simp only [List.map_nil, List.nil_append, parseL]
    rw [if_pos ⟨trivial, by omega⟩]; simp
  | r :: rs, rows, n, hn3, hl, hm => by
    obtain ⟨a1, a2, a3⟩ := line_round hn hv (hm r (by simp)) (rows := rows) (by simp at hl; omega)
    have ih := rows_round hn hv rs (rows ++ [r]) (n + 1) (by omega) (by simpa using hl) (fun x hx => hm x (List.mem_cons_of_mem _ hx))
    simp only [List.map_cons, List.cons_append]
    cases hx : rs.map (fun r => Go.Lib.join (rowWords en t.cols r r.length) [32]) ++ [[]] with
    | nil => simp at hx
    | cons x r' =>
      rw [hx] at ih
      simp only [parseL]
      rw [if_neg (by omega), if_neg (by omega), words_join _ a1, if_pos a2, a3, ih]
      simp
theorem parse_round {en : List Enum} (hn : Named en) {t : Trace} (h : checkErr en t = 0) : parse en (bodyText en t) = (t, 0, 0) ∧ (split 10 (bodyText en t)).length = t.rows.length + 3 := by
  have hv := valid_of h
  have hnc : ∀ w ∈ names t.cols, Clean w := by
    intro w hw
    obtain ⟨k, hk, rfl⟩ := List.mem_iff_getElem.1 hw
    have hk' : k < t.cols.length := by simpa using hk
    simp only [names, List.getElem_map]
    exact ident_clean (hv.col k hk').1
  have hty : ∀ k (hk : k < t.cols.length), ∃ w, tyName en t.cols[k].type = some w := by
    intro k hk
    have := (hv.col k hk).2.1
    cases hx : tyName en t.cols[k].type with
    | none => rw [hx] at this; simp at this
    | some w => exact ⟨w, rfl⟩
  have htc : ∀ w ∈ typeNames en t.cols, Clean w := by
    intro w hw
    obtain ⟨k, hk, rfl⟩ := List.mem_iff_getElem.1 hw
    have hk' : k < t.cols.length := by simpa using hk
    obtain ⟨w, hw⟩ := hty k hk'
    simp only [typeNames, List.getElem_map, hw, Option.getD_some]
    exact tyName_clean hn hw
  have hlines : bodyText en t = Go.Lib.join ((Go.Lib.join (names t.cols) [32] :: Go.Lib.join (typeNames en t.cols) [32] :: t.rows.map (fun r => Go.Lib.join (rowWords en t.cols r r.length) [32])) ++ [[]]) [10] := by
    rw [join_lines]
    unfold bodyText lineText
    simp [Function.comp_def]
  have hno : ∀ l ∈ (Go.Lib.join (names t.cols) [32] :: Go.Lib.join (typeNames en t.cols) [32] :: t.rows.map (fun r => Go.Lib.join (rowWords en t.cols r r.length) [32])) ++ [[]], (10 : UInt8) ∉ l := by
    intro l hl
    simp only [List.cons_append, List.mem_cons, List.mem_append, List.mem_map, List.not_mem_nil, or_false] at hl
    rcases hl with rfl | rfl | ⟨r, hr, rfl⟩ | rfl
    · exact join_no 10 32 (by decide) _ (fun w hw => (hnc w hw).2.2)
    · exact join_no 10 32 (by decide) _ (fun w hw => (htc w hw).2.2)
    · exact join_no 10 32 (by decide) _ (fun w hw => ((line_round hn hv hr (rows := []) (by simp)).1 w hw).2.2)
    · simp
  have hsp : split 10 (bodyText en t) = (Go.Lib.join (names t.cols) [32] :: Go.Lib.join (typeNames en t.cols) [32] :: t.rows.map (fun r => Go.Lib.join (rowWords en t.cols r r.length) [32])) ++ [[]] := by
    rw [hlines]; exact split_join 10 _ (by simp) hno
  refine ⟨?_, by rw [hsp]; simp⟩
  unfold parse
  rw [hsp]
  have hr := rows_round hn hv t.rows [] 3 (by omega) (by simpa using hv.rows) (fun r h => h)
  cases hx : t.rows.map (fun r => Go.Lib.join (rowWords en t.cols r r.length) [32]) ++ [[]] with
  | nil => simp at hx
  | cons x r' =>
    rw [hx] at hr
    simp only [List.cons_append, hx, parseL]
    rw [if_pos trivial, words_join _ hnc, words_join _ htc]
    have hne : namesErr (names t.cols) = 0 := by
      unfold namesErr
      rw [if_neg (by have := hv.cols; simp; omega)]
      refine firstErr_no ?_
      intro k hk
      have hk' : k < t.cols.length := by simpa using hk
      obtain ⟨c1, _, _, c4⟩ := hv.col k hk'
      have e1 : (names t.cols).getD k [] = t.cols[k].name := by simp [List.getD, names, hk']
      have e2 : (names t.cols).take k = names (t.cols.take k) := by simp [names, List.map_take]
      unfold nameErr
      rw [e1, e2, c1, if_neg (by simp), if_neg c4]
    rw [if_pos hne, if_neg (by omega), if_pos trivial]
    have hto : ∀ k (hk : k < t.cols.length), typeOf en ((typeNames en t.cols).getD k []) = some t.cols[k].type := by
      intro k hk
      obtain ⟨w, hw⟩ := hty k hk
      have e1 : (typeNames en t.cols).getD k [] = w := by simp [List.getD, typeNames, hk, hw]
      rw [e1]; exact typeOf_tyName hn hw
    have hte : typesErr en (typeNames en t.cols) ((names t.cols).map nameCol) = 0 := by
      unfold typesErr
      rw [if_neg (by simp)]
      refine firstErr_no ?_
      intro k hk
      rw [hto k (by simpa using hk)]; simp
    rw [if_pos hte]
    have htd : typed en (typeNames en t.cols) ((names t.cols).map nameCol) (typeNames en t.cols).length = t.cols := by
      apply List.ext_getElem?
      intro k
      by_cases hk : k < t.cols.length
      · rw [typed_at _ _ _ _ k (by simpa using hk), if_pos (by simpa using hk), hto k hk, List.getElem?_eq_getElem hk]
        have := (hv.col k hk).2.2.1
        simp only [names, nameCol, List.getElem_map, Option.getD_some, Option.some.injEq]
        cases hd : t.cols[k]
        rw [hd] at this
        simp at this
        simp [this]
      · rw [List.getElem?_eq_none (by simp; omega), List.getElem?_eq_none (by omega)]
    rw [htd, hr]
    simp
end PI.Tr
namespace PI.Tr
open Go (IntKind BinOp UnOp)
theorem dec_len : ∀ (k u : Nat), u < 10 ^ (k + 1) → (Go.Lib.decDigits u).length ≤ k + 1
  | 0, u, h => by
    rw [Go.Lib.decDigits, dif_pos (by simpa using h)]; simp
  | k + 1, u, h => by
    rw [Go.Lib.decDigits]
    split
    · simp
    · have := dec_len k (u / 10) (by rw [Nat.div_lt_iff_lt_mul (by decide)]; rw [Nat.pow_succ] at h; exact h)
      simp; omega
theorem join_len : ∀ (ws : List Str), (∀ w ∈ ws, w.length ≤ 40) → (Go.Lib.join ws [32]).length ≤ ws.length * 41
  | [], _ => by simp [Go.Lib.join_nil]
  | [w], h => by rw [Go.Lib.join_one]; have := h w (by simp); simp; omega
  | w :: x :: r, h => by
    rw [join_cons2]
    have h1 := h w (by simp)
    have h2 := join_len (x :: r) (fun y hy => h y (List.mem_cons_of_mem _ hy))
    simp only [List.length_append, List.length_cons] at h2 ⊢
    omega
theorem line_len (ws : List Str) (h : ∀ w ∈ ws, w.length ≤ 40) (hl : ws.length ≤ 384) : (lineText ws).length ≤ 15745 := by
  have := join_len ws h
  unfold lineText
  simp only [List.length_append, List.length_cons, List.length_nil]
  omega
theorem ident_len {w : Str} (h : PI.Tr.ident w = true) : w.length ≤ 40 := by
  unfold PI.Tr.ident at h
  simp only [Bool.and_eq_true, decide_eq_true_eq] at h
  exact h.1.1.1.2
theorem tyName_len {en : List Enum} (hn : Named en) {t : Int} {w : Str} (h : tyName en t = some w) : w.length ≤ 40 := by
  rcases tyName_enum h with ⟨_, rfl⟩ | ⟨_, rfl⟩ | ⟨k, hk, _, rfl⟩
  · simp
  · simp
  · exact ident_len (hn.ident _ (List.getElem_mem hk))
theorem cell_len {en : List Enum} (hn : Named en) {t : Int} {c : Cell} (ht : (tyName en t).isNone = false) (hc : cellErr en t c = 0) : (cellWord en t c).length ≤ 40 := by
  unfold cellWord
  split
  · simp
  · rename_i k0
    split
    · simp
    · rename_i k2
      unfold cellErr at hc
      split at hc
      · simp at hc
      · rename_i h1
        split at hc
        · simp at hc
        · rename_i h2
          simp only [not_or, not_and, Decidable.not_not] at h1
          have k1 : c.kind = 1 := by
            by_cases e : c.kind = 1
            · exact e
            · exact absurd (h1.2 k0 e) k2
          have hh : tyHas en t c.v = true := by
            cases hx : tyHas en t c.v with
            | true => rfl
            | false => exact absurd ⟨k1, hx⟩ h2
          rw [valText_ok ht hh]
          obtain ⟨w, hw⟩ : ∃ w, tyName en t = some w := by
            cases hx : tyName en t with
            | none => rw [hx] at ht; simp at ht
            | some w => exact ⟨w, rfl⟩
          rcases tyName_enum hw with ⟨rfl, _⟩ | ⟨rfl, _⟩ | ⟨k, hk, rfl, _⟩
          · rw [if_pos rfl]
            cases (c.v == 1) <;> simp [boolText]
          · rw [if_neg (by decide), if_pos rfl]
            have hr : -32768 ≤ c.v ∧ c.v ≤ 32767 := by simpa [tyHas] using hh
            simp only
            unfold Go.Lib.itoa
            split
            · have := dec_len 5 c.v.natAbs (by have : (10 : Nat) ^ (5 + 1) = 1000000 := by decide
                                               omega)
              simp; omega
            · have := dec_len 5 c.v.toNat (by have : (10 : Nat) ^ (5 + 1) = 1000000 := by decide
                                              omega)
              omega
          · rw [if_neg (by omega), if_neg (by omega), enumAt_in hk]
            simp only [Option.bind_some]
            cases hg : en[k].tags[c.v.toNat]? with
            | none => simp
            | some s => exact ident_len ((hn.tags _ (List.getElem_mem hk)).2.1 s (List.mem_of_getElem? hg))
theorem flat_len' : ∀ (l : List Str) (m : Nat), (∀ x ∈ l, x.length ≤ m) → l.flatten.length ≤ l.length * m
  | [], m, _ => by simp
  | x :: r, m, h => by
    have h1 := h x (by simp)
    have h2 := flat_len' r m (fun y hy => h y (List.mem_cons_of_mem _ hy))
    simp only [List.flatten_cons, List.length_append, List.length_cons, Nat.add_mul, Nat.one_mul]
    omega
theorem body_len {en : List Enum} (hn : Named en) {t : Trace} (h : checkErr en t = 0) : (bodyText en t).length ≤ 100000000 := by
  have hv := valid_of h
  have l1 := line_len (names t.cols) (by
    intro w hw
    obtain ⟨k, hk, rfl⟩ := List.mem_iff_getElem.1 hw
    have hk' : k < t.cols.length := by simpa using hk
    simp only [names, List.getElem_map]
    exact ident_len (hv.col k hk').1) (by simpa using hv.cols)
  have l2 := line_len (typeNames en t.cols) (by
    intro w hw
    obtain ⟨k, hk, rfl⟩ := List.mem_iff_getElem.1 hw
    have hk' : k < t.cols.length := by simpa using hk
    simp only [typeNames, List.getElem_map]
    cases hx : tyName en t.cols[k].type with
    | none => simp
    | some w => exact tyName_len hn hx) (by simpa using hv.cols)
  have l3 := flat_len' (t.rows.map fun r => lineText (rowWords en t.cols r r.length)) 15745 (by
    intro x hx
    simp only [List.mem_map] at hx
    obtain ⟨r, hr, rfl⟩ := hx
    obtain ⟨r1, r2⟩ := hv.row r hr
    refine line_len _ ?_ (by have := hv.cols; simp; omega)
    intro w hw
    unfold rowWords at hw
    simp only [List.mem_map, List.mem_range] at hw
    obtain ⟨k, hk, rfl⟩ := hw
    have hk' : k < t.cols.length := by omega
    have e1 : t.cols.getD k default = t.cols[k] := by simp [List.getD, hk']
    have e2 : r.getD k default = r[k] := by simp [List.getD, hk]
    rw [e1, e2]
    exact cell_len hn (hv.col k hk').2.1 (r2 k hk hk'))
  have := hv.rows
  unfold bodyText
  simp only [List.length_append, List.length_map] at l3 ⊢
  omega
end PI.Tr
