/-
  What is read is valid and has its text: plain Lean.
-/
import Derived.Test.YtegahghjancjpaaDoorPiTrRun15
set_option maxRecDepth 100000
set_option linter.unusedSimpArgs false
set_option linter.unusedVariables false
namespace PI.Tr

theorem join_cons2 (c : UInt8) (x y : Str) (r : List Str) : Go.Lib.join (x :: y :: r) [c] = x ++ c :: Go.Lib.join (y :: r) [c] := by
  rw [Go.Lib.join_cons, Go.Lib.join_cons]
  simp [Go.Lib.joinTail]
theorem join_split (c : UInt8) : ∀ s : Str, Go.Lib.join (split c s) [c] = s
  | [] => by simp [split, Go.Lib.join_one]
  | b :: r => by
    have ih := join_split c r
    simp only [split]
    split
    · rename_i e
      cases hs : split c r with
      | nil => exact absurd hs (split_ne c r)
      | cons w ws =>
        rw [hs] at ih
        rw [join_cons2, ih, e]; rfl
    · cases hs : split c r with
      | nil => exact absurd hs (split_ne c r)
      | cons w ws =>
        rw [hs] at ih
        simp only
        rw [Go.Lib.join_cons] at ih ⊢
        rw [← ih]; rfl
theorem join_words (w : Str) : Go.Lib.join (wordsOf w) [32] = w := by
  unfold wordsOf
  split
  · rename_i h; subst h; rfl
  · exact join_split 32 w
theorem join_lines : ∀ ls : List Str, Go.Lib.join (ls ++ [[]]) [10] = (ls.map (· ++ [10])).flatten
  | [] => by simp [Go.Lib.join_one]
  | [x] => by simp [join_cons2, Go.Lib.join_one]
  | x :: y :: r => by
    have ih := join_lines (y :: r)
    simp only [List.cons_append] at ih ⊢
    rw [join_cons2, ih]; simp

theorem typeOf_name {en : List Enum} {s : Str} {t : Int} (h : typeOf en s = some t) : tyName en t = some s := by
  unfold typeOf at h
  split at h
  · rename_i e; simp at h; subst h; simp [tyName, e]
  · split at h
    · rename_i e; simp at h; subst h; simp [tyName, e]
    · cases hf : en.findIdx? (fun u => decide (u.name = s)) with
      | none => rw [hf] at h; simp at h
      | some i =>
        rw [hf] at h
        simp at h
        subst h
        obtain ⟨hi, hp, _⟩ := List.findIdx?_eq_some_iff_getElem.1 hf
        have e := enumAt_in hi
        have h1 : ¬ (i : Int) + 3 = 1 := by omega
        have h2 : ¬ (i : Int) + 3 = 2 := by omega
        unfold tyName
        rw [if_neg h1, if_neg h2, e]
        simpa using hp

theorem valParse_ok {en : List Enum} (hen : EOK en) {t : Int} {s : Str} (h : (valParse en t s).2 = 0) : (valText en t (valParse en t s).1).1 = s ∧ tyHas en t (valParse en t s).1 = true ∧ I64 (valParse en t s).1 := by
  unfold valParse at h ⊢
  split at h
  · simp at h
  · rename_i hn
    rw [if_neg hn]
    split at h
    · rename_i e
      subst e
      rw [if_pos rfl]
      cases hi : intOf s with
      | none => rw [hi] at h; simp at h
      | some n =>
        simp only
        unfold intOf at hi
        split at hi
        · rename_i m hm
          split at hi
          · rename_i hc
            simp at hi; subst hi
            have hh : tyHas en 2 m = true := by simp [tyHas, hc.1, hc.2.1]
            refine ⟨?_, hh, ⟨by omega, by omega⟩⟩
            unfold valText
            rw [if_neg (by simpa using hn), if_neg (by rw [hh]; simp)]
            simp [hc.2.2]
          · simp at hi
        · simp at hi
    · rename_i e
      rw [if_neg e]
      cases hf : (List.range (tySize en t)).find? (fun v : Nat => decide ((valText en t v).2 = 0 ∧ (valText en t v).1 = s)) with
      | none => rw [hf] at h; simp at h
      | some v =>
        have h1 := List.find?_some hf
        have h2 := List.mem_of_find?_eq_some hf
        simp only [decide_eq_true_eq] at h1
        simp only [List.mem_range] at h2
        have := tySize_len hen t
        refine ⟨h1.2, ?_, ⟨by simp only; omega, by simp only; omega⟩⟩
        simp only
        by_cases hh : tyHas en t v = true
        · exact hh
        · have h3 := h1.1
          unfold valText at h3
          rw [if_neg (by simpa using hn), if_pos (by simpa using hh)] at h3
          simp at h3

theorem parseCell_ok {en : List Enum} (hen : EOK en) {t : Int} {s : Str} {c : Cell} (h : parseCell en t s = some c) : cellWord en t c = s ∧ cellErr en t c = 0 ∧ I64 c.v := by
  unfold parseCell at h
  split at h
  · rename_i e; simp at h; subst h; exact ⟨by simp [cellWord, e], by simp [cellErr], by decide⟩
  · split at h
    · rename_i e; simp at h; subst h; exact ⟨by simp [cellWord, e], by simp [cellErr], by decide⟩
    · split at h
      · rename_i e
        simp at h; subst h
        obtain ⟨h1, h2, h3⟩ := valParse_ok hen e
        exact ⟨by simp [cellWord, h1], by simp [cellErr, h2], h3⟩
      · simp at h

theorem line_ok {en : List Enum} (hen : EOK en) {cols : List Decl} {rows : List Row} {l : List Str} (h : lineErr en cols rows l = 0) :
    rows.length ≠ 4096 ∧ (lineCells en cols l l.length).length = cols.length ∧ rowWords en cols (lineCells en cols l l.length) (lineCells en cols l l.length).length = l ∧ rowErr en cols (lineCells en cols l l.length) = 0 ∧ ∀ c ∈ lineCells en cols l l.length, I64 c.v := by
  unfold lineErr at h
  split at h
  · simp at h
  · rename_i h1
    split at h
    · simp at h
    · rename_i h2
      have h2' : l.length = cols.length := by simpa using h2
      have hall : ∀ k, k < l.length → ∃ c, cellAt en cols l k = some c := by
        intro k hk
        have := firstErr_zero h k hk
        cases hx : cellAt en cols l k with
        | none => rw [hx] at this; simp at this
        | some c => exact ⟨c, rfl⟩
      have hget : ∀ k, k < l.length → ∃ c, cellAt en cols l k = some c ∧ (lineCells en cols l l.length)[k]? = some c := by
        intro k hk
        obtain ⟨c, hc⟩ := hall k hk
        exact ⟨c, hc, by simp [lineCells, hk, hc]⟩
      refine ⟨h1, by simpa using h2', ?_, ?_, ?_⟩
      · rw [lineCells_len]
        apply List.ext_getElem (by simp)
        intro k hk1 hk2
        obtain ⟨c, hc, hg⟩ := hget k hk2
        have hp := (parseCell_ok hen (show parseCell en (cols.getD k default).type (l.getD k []) = some c from hc)).1
        simp only [rowWords, List.getElem_map, List.getElem_range]
        rw [show (lineCells en cols l l.length).getD k default = c by rw [List.getD, hg]; rfl, hp]
        simp [List.getD, hk2]
      · unfold rowErr
        rw [lineCells_len, if_neg (by simpa using h2')]
        refine firstErr_no ?_
        intro k hk
        obtain ⟨c, hc, hg⟩ := hget k hk
        rw [show (lineCells en cols l l.length).getD k default = c by rw [List.getD, hg]; rfl]
        exact (parseCell_ok hen (show parseCell en (cols.getD k default).type (l.getD k []) = some c from hc)).2.1
      · intro c hc
        obtain ⟨k, hk, rfl⟩ := List.mem_iff_getElem.1 hc
        rw [lineCells_len] at hk
        obtain ⟨c, hc, hg⟩ := hget k hk
        rw [List.getElem?_eq_getElem (by simpa using hk)] at hg
        simp at hg
        rw [hg]
        exact (parseCell_ok hen (show parseCell en (cols.getD k default).type (l.getD k []) = some c from hc)).2.2

theorem parse_rows {en : List Enum} (hen : EOK en) (cols : List Decl) {t : Trace} {i : Nat} : ∀ (ws : List Str) (n : Nat) (rows : List Row), 3 ≤ n → rows.length ≤ 4096 → parseL en ws n cols rows = (t, i, 0) →
    ∃ news : List Row, ws = news.map (fun r => Go.Lib.join (rowWords en cols r r.length) [32]) ++ [[]] ∧ t = ⟨cols, rows ++ news⟩ ∧ i = 0 ∧ (rows ++ news).length ≤ 4096 ∧ ∀ r ∈ news, rowErr en cols r = 0 ∧ r.length = cols.length ∧ ∀ c ∈ r, I64 c.v
  | [], n, rows, hn, hr, h => by simp [parseL] at h
  | [w], n, rows, hn, hr, h => by
    simp only [parseL] at h
    split at h
    · rename_i hc
      simp at h
      obtain ⟨rfl, rfl⟩ := h
      exact ⟨[], by simp [hc.1], by simp, rfl, by simpa using hr, by simp⟩
    · simp at h
  | w :: w2 :: r, n, rows, hn, hr, h => by
    simp only [parseL] at h
    rw [if_neg (by omega), if_neg (by omega)] at h
    split at h
    · rename_i hl
      obtain ⟨l1, l2, l3, l4, l5⟩ := line_ok hen hl
      obtain ⟨news, n1, n2, n3, n4, n5⟩ := parse_rows hen cols (w2 :: r) (n + 1) _ (by omega) (by simp; omega) h
      refine ⟨lineCells en cols (wordsOf w) (wordsOf w).length :: news, ?_, by simpa using n2, n3, by simpa using n4, ?_⟩
      · rw [n1]
        simp only [List.map_cons, List.cons_append]
        rw [l3, join_words]
      · intro x hx
        rcases List.mem_cons.1 hx with rfl | hx
        · exact ⟨l4, l2, l5⟩
        · exact n5 x hx
    · rename_i hl
      simp at h
      exact absurd h.2.2 hl

theorem typed_at (en : List Enum) (l : List Str) (cols : List Decl) : ∀ (i k : Nat) (hk : k < cols.length), (typed en l cols i)[k]? = some (if k < i then ⟨cols[k].name, (typeOf en (l.getD k [])).getD 0, cols[k].clock⟩ else cols[k])
  | 0, k, hk => by simp [typed, hk]
  | i + 1, k, hk => by
    have ih := typed_at en l cols i k hk
    simp only [typed, List.getElem?_modify]
    rw [ih]
    by_cases h1 : i = k
    · subst h1
      simp
    · by_cases h2 : k < i
      · simp [h1, h2, show k < i + 1 by omega]
      · simp [h1, h2, show ¬ k < i + 1 by omega]

theorem types_ok {en : List Enum} {l : List Str} {cols : List Decl} (h : typesErr en l cols = 0) :
    l.length = cols.length ∧ ∀ k (hk : k < cols.length), ∃ t, typeOf en (l.getD k []) = some t ∧ (typed en l cols l.length)[k]? = some ⟨cols[k].name, t, cols[k].clock⟩ := by
  unfold typesErr at h
  split at h
  · simp at h
  · rename_i h1
    have h1' : l.length = cols.length := by simpa using h1
    refine ⟨h1', ?_⟩
    intro k hk
    have := firstErr_zero h k (by omega)
    cases hx : typeOf en (l.getD k []) with
    | none => rw [hx] at this; simp at this
    | some t =>
      refine ⟨t, rfl, ?_⟩
      rw [typed_at en l cols l.length k hk, if_pos (by omega), hx]; rfl

theorem names_ok {l : List Str} (h : namesErr l = 0) : l.length ≤ 384 ∧ ∀ k (hk : k < l.length), ident l[k] = true ∧ l[k] ∉ l.take k := by
  unfold namesErr at h
  split at h
  · simp at h
  · rename_i h1
    refine ⟨by omega, ?_⟩
    intro k hk
    have := firstErr_zero h k hk
    simp only [nameErr, List.getD, List.getElem?_eq_getElem hk, Option.getD_some] at this
    cases hx : ident l[k] with
    | false => rw [hx] at this; simp at this
    | true =>
      rw [if_neg (by simp [hx])] at this
      refine ⟨rfl, ?_⟩
      intro hm; rw [if_pos hm] at this; simp at this

/-- What is read is valid, and has exactly this text. -/
theorem parse_ok {en : List Enum} (hen : EOK en) {s : Str} {t : Trace} {i : Nat} (h : parse en s = (t, i, 0)) :
    checkErr en t = 0 ∧ bodyText en t = s ∧ TrOK t ∧ i = 0 ∧ ∀ d ∈ t.cols, d.clock = [] := by
  unfold parse at h
  have hjs := join_split 10 s
  cases hw0 : split 10 s with
  | nil => exact absurd hw0 (split_ne 10 s)
  | cons w0 r0 =>
    rw [hw0] at h hjs
    cases r0 with
    | nil => simp [parseL] at h
    | cons w1 r1 =>
      simp only [parseL] at h
      rw [if_pos trivial] at h
      split at h
      rotate_left
      · rename_i he; simp at h; exact absurd h.2.2 he
      · rename_i hn
        obtain ⟨hn1, hn2⟩ := names_ok hn
        cases r1 with
        | nil => simp [parseL] at h
        | cons w2 r2 =>
          simp only [parseL] at h
          rw [if_neg (by omega), if_pos trivial] at h
          split at h
          rotate_left
          · rename_i he; simp at h; exact absurd h.2.2 he
          · rename_i ht
            obtain ⟨ht1, ht2⟩ := types_ok ht
            obtain ⟨news, n1, n2, n3, n4, n5⟩ := parse_rows hen _ (w2 :: r2) 3 [] (by omega) (by simp) h
            generalize hcols : typed en (wordsOf w1) ((wordsOf w0).map nameCol) (wordsOf w1).length = cols at *
            have hcl : cols.length = (wordsOf w0).length := by rw [← hcols]; simp
            have hcat : ∀ k (hk : k < (wordsOf w0).length), ∃ t, typeOf en ((wordsOf w1).getD k []) = some t ∧ cols[k]? = some ⟨(wordsOf w0)[k], t, []⟩ := by
              intro k hk
              obtain ⟨t, t1, t2⟩ := ht2 k (by simpa using hk)
              refine ⟨t, t1, ?_⟩
              rw [t2]; simp [nameCol]
            have hnames : names cols = wordsOf w0 := by
              apply List.ext_getElem (by simp [names, hcl])
              intro k h1 h2
              obtain ⟨t, t1, t2⟩ := hcat k h2
              rw [List.getElem?_eq_getElem (by omega)] at t2
              simp at t2
              simp [names, t2]
            have htypes : typeNames en cols = wordsOf w1 := by
              apply List.ext_getElem (by simp [hcl] at ht1 ⊢; omega)
              intro k h1 h2
              have hk : k < (wordsOf w0).length := by simp at h1; omega
              obtain ⟨t, t1, t2⟩ := hcat k hk
              rw [List.getElem?_eq_getElem (by omega)] at t2
              simp at t2
              have := typeOf_name t1
              simp only [typeNames, List.getElem_map, t2, this, Option.getD_some]
              simp [List.getD, h2]
            subst n2 n3
            simp only [List.nil_append] at n4 ⊢
            have hclock : ∀ d ∈ cols, d.clock = [] ∧ I64 d.type := by
              intro d hd
              obtain ⟨k, hk, rfl⟩ := List.mem_iff_getElem.1 hd
              obtain ⟨t, t1, t2⟩ := hcat k (by omega)
              rw [List.getElem?_eq_getElem hk] at t2
              simp at t2
              rw [t2]
              exact ⟨rfl, typeOf_I64 hen t1⟩
            refine ⟨?_, ?_, ⟨⟨by unfold Len; simp only; omega, fun d hd => (hclock d hd).2⟩, by unfold Len; simp only; omega, fun r hr => by have := (n5 r hr).2.1; unfold Len; omega, fun r hr => (n5 r hr).2.2⟩, trivial, fun d hd => (hclock d hd).1⟩
            · unfold checkErr
              rw [if_neg (by simp only; omega)]
              have hc0 : firstErr cols.length (colErr en cols) = 0 := by
                refine firstErr_no ?_
                intro k hk
                obtain ⟨t, t1, t2⟩ := hcat k (by omega)
                obtain ⟨k1, k2⟩ := hn2 k (by omega)
                have htk : names (cols.take k) = (wordsOf w0).take k := by rw [← hnames]; simp [names, List.map_take]
                unfold colErr
                rw [t2]
                simp only [k1, typeOf_name t1, htk]
                simp [k2]
              rw [if_neg (by simp only; rw [hc0]; simp)]
              refine firstErr_no ?_
              intro k hk
              simp only [List.getD, List.getElem?_eq_getElem hk, Option.getD_some]
              exact (n5 _ (List.getElem_mem hk)).1
            · unfold bodyText lineText
              simp only [hnames, htypes, join_words]
              rw [← hjs, n1]
              have := join_lines (w0 :: w1 :: news.map (fun r => Go.Lib.join (rowWords en cols r r.length) [32]))
              simp only [List.cons_append] at this
              rw [this]
              simp [Function.comp_def]
end PI.Tr
