import Derived.Test.YtegahghjancjpaaGreatDoorPiTrRun1
import Derived.Test.YtegahghjancjpaaGreatDoorPiTrSplit
import Derived.KernelRfl
set_option maxRecDepth 100000
set_option linter.unusedSimpArgs false
set_option linter.unusedVariables false
namespace PI.Tr
open Go (IntKind BinOp UnOp)
structure EOK (en : List Enum) : Prop where
  len : en.length ≤ 140737488355328
  tags : ∀ u ∈ en, Len u.tags.length
def typeOf (en : List Enum) (s : Str) : Option Int := if s = [98, 111, 111, 108] then some 1 else if s = [105, 110, 116] then some 2 else (en.findIdx? fun u => u.name = s).map fun i => (i : Int) + 3
theorem findIdx_at {α : Type} {l : List α} {p : α → Bool} {i : Nat} (hi : i < l.length) (h : p l[i] = true) (hk : ∀ k (hk : k < i), p (l[k]'(by omega)) = false) : l.findIdx? p = some i := by
  rw [List.findIdx?_eq_some_iff_getElem]
  exact ⟨hi, h, fun j hj => by simpa using hk j hj⟩
theorem findIdx_no {α : Type} {l : List α} {p : α → Bool} (hk : ∀ k (hk : k < l.length), p l[k] = false) : l.findIdx? p = none := by
  rw [List.findIdx?_eq_none_iff]
  intro x hx
  obtain ⟨k, hk', rfl⟩ := List.mem_iff_getElem.1 hx
  exact hk k hk'
def intOf (s : Str) : Option Int :=
  match Go.Lib.atoiAll s with
  | .ok n => if -32768 ≤ n ∧ n ≤ 32767 ∧ Go.Lib.itoa n = s then some n else none
  | _ => none
theorem tySize_len {en : List Enum} (h : EOK en) (t : Int) : tySize en t ≤ 9223372036854775807 := by
  unfold tySize
  split
  · omega
  · split
    · omega
    · unfold enumAt
      split
      · cases he : en[(t - 3).toNat]? with
        | none => simp
        | some u => simpa using h.tags u (List.mem_of_getElem? he)
      · simp
def valParse (en : List Enum) (t : Int) (s : Str) : Int × Int :=
  if (tyName en t).isNone then (0, 10) else if t = 2 then (match intOf s with | some n => (n, 0) | none => (0, 5))
  else match (List.range (tySize en t)).find? (fun v : Nat => decide ((valText en t v).2 = 0 ∧ (valText en t v).1 = s)) with | some v => ((v : Int), 0) | none => (0, 5)
theorem find_range {n i : Nat} {p : Nat → Bool} (hi : i < n) (h : p i = true) (hk : ∀ k, k < i → p k = false) : (List.range n).find? p = some i := by
  rw [List.find?_eq_some_iff_getElem]
  exact ⟨h, i, by simpa using hi, by simp, fun j hj => by simpa using hk j hj⟩
theorem find_range_no {n : Nat} {p : Nat → Bool} (hk : ∀ k, k < n → p k = false) : (List.range n).find? p = none := by
  rw [List.find?_eq_none]
  intro x hx
  simpa using hk x (by simpa using hx)
theorem indexByte_no (c : UInt8) : ∀ s : Str, c ∉ s → Go.Lib.indexByte s c = -1
  | [], _ => rfl
  | b :: s, h => by
    simp only [List.mem_cons, not_or] at h
    have : (b == c) = false := by simpa using fun e => h.1 e.symm
    simp [Go.Lib.indexByte, this, indexByte_no c s h.2]
theorem indexByte_cut (c : UInt8) : ∀ (a r : Str), c ∉ a → Go.Lib.indexByte (a ++ c :: r) c = a.length
  | [], r, _ => by simp [Go.Lib.indexByte]
  | b :: a, r, h => by
    simp only [List.mem_cons, not_or] at h
    have h1 : (b == c) = false := by simpa using fun e => h.1 e.symm
    have h2 := indexByte_cut c a r h.2
    simp only [List.cons_append, Go.Lib.indexByte, h1, Bool.false_eq_true, if_false, h2]
    have : ((a.length : Int) == -1) = false := by simp
    rw [this]; rfl
theorem cut_cases (c : UInt8) (s : Str) : c ∉ s ∨ ∃ a r, s = a ++ c :: r ∧ c ∉ a := by
  induction s with
  | nil => left; simp
  | cons b s ih =>
    by_cases hb : b = c
    · exact .inr ⟨[], s, by simp [hb], by simp⟩
    · rcases ih with h | ⟨a, r, e, hn⟩
      · exact .inl (by simp [Ne.symm hb, h])
      · exact .inr ⟨b :: a, r, by simp [e], by simp [Ne.symm hb, hn]⟩
section
variable {L : Nat → Option PFunc} (hL : ∀ k f, Lc k = some f → L k = some f)
include hL
theorem value_type (en : List Enum) (hen : EOK en) (s : Str) (o : Bool) (h : List PObj) : callL L 40 [.list o (en.map eEnum), .str s] h = some (.tuple [.int .i64 ((typeOf en s).getD 0), .bool (typeOf en s).isSome], h) := by
  refine callL_wp (hL 40 _ rfl) rfl ?_
  by_cases h1 : s = [98, 111, 111, 108]
  · subst h1; simp [f_value_Type, typeOf]
  · by_cases h2 : s = [105, 110, 116]
    · subst h2; simp [f_value_Type, typeOf]
    · have hl := hen.len
      have ht : typeOf en s = (en.findIdx? fun u => u.name = s).map fun i => (i : Int) + 3 := by simp [typeOf, h1, h2]
      generalize typeOf en s = T at ht ⊢
      simp [f_value_Type, h1, h2]
      refine loop_updG en.length (fun i => decide ((en.getD i default).name ≠ s)) (fun i (x : (PV × PV) × Nat) => [(4, x.1.1), (5, x.1.2), (9, .int .i64 i)]) (fun _ x => x.2) (fun _ _ => h) ((.dead, .dead), 0) ?_ ?_ ?_ rfl rfl rfl
      · intro i hi hz x ih
        have hw := wrap_succ i (by omega)
        simp [List.getD, hi] at hz
        simp [hi, hz, hw]
        simpa using ih ((_, _), _)
      · intro i hi hz hk x
        simp [List.getD, hi] at hz
        have hf := findIdx_at (p := fun u : Enum => decide (u.name = s)) hi (by simpa using hz) (fun k hk' => by have := hk k hk'; have hk2 : k < en.length := (by omega); simpa [List.getD, hk2] using this)
        rw [hf] at ht
        have hw : IntKind.i64.wrap (3 + (i : Int)) = (i : Int) + 3 := by rw [wrap_i64] <;> omega
        simp [hi, hz, hw, ht]
      · intro hz x
        have hf := findIdx_no (l := en) (p := fun u : Enum => decide (u.name = s)) (fun k hk => by have := hz k hk; simpa [List.getD, hk] using this)
        rw [hf] at ht
        simp [ht]
theorem strconv_atoi (s : Str) (hs : s.length ≤ 281474976710656) (h : List PObj) : callL L 54 [.str s] h = some ((match Go.Lib.atoiAll s with
      | .ok v => .tuple [.int .i64 v, .nilIface]
      | Go.Lib.NumEnd.syntax => .tuple [.int .i64 0, .iface 0 (.cptr [])]
      | .range => .tuple [.int .i64 (Go.Lib.atoiSat s), .iface 0 (.cptr [])]), h) := by
  rw [callL_prim (hL 54 _ rfl) rfl rfl]
  simp only [pAtoi, hs, if_true, List.map_cons, List.map_nil, dem_str]
  cases Go.Lib.atoiAll s <;> rfl
theorem value_parse (en : List Enum) (hen : EOK en) (t : Int) (ht : I64 t) (s : Str) (hs : s.length ≤ 281474976710656) (o : Bool) (h : List PObj) : callL L 41 [.list o (en.map eEnum), .int .i64 t, .str s] h = some (.tuple [.int .i64 (valParse en t s).1, .int .i64 (valParse en t s).2], h) := by
  refine callL_wp (hL 41 _ rfl) rfl ?_
  have h1 := value_valid hL en t ht false []
  cases hn : tyName en t with
  | none => simp [f_value_Parse, valParse, h1, hn]
  | some nm =>
    by_cases e2 : t = 2
    · subst e2
      have ha := strconv_atoi hL s hs h
      simp only [valParse, intOf, hn, Option.isNone_some, Bool.false_eq_true, if_false, if_true]
      cases hat : Go.Lib.atoiAll s with
      | ok n =>
        rw [hat] at ha
        by_cases hr : -32768 ≤ n ∧ n ≤ 32767
        · have hi := strconv_itoa hL n ⟨by omega, by omega⟩ []
          by_cases he : Go.Lib.itoa n = s
          · simp [f_value_Parse, h1, hn, ha, word_in hL, hr, hi, he]
          · simp [f_value_Parse, h1, hn, ha, word_in hL, hr, hi, he]
        · have hr' : ¬ (-32768 ≤ n ∧ n ≤ 32767 ∧ Go.Lib.itoa n = s) := fun h => hr ⟨h.1, h.2.1⟩
          simp [f_value_Parse, h1, hn, ha, word_in hL, hr, hr']
      | _ => rw [hat] at ha; simp [f_value_Parse, h1, hn, ha]
    · have hsz := value_size hL en t ht false []
      have hb := tySize_len hen t
      have hp : valParse en t s = match (List.range (tySize en t)).find? (fun v : Nat => decide ((valText en t v).2 = 0 ∧ (valText en t v).1 = s)) with | some v => ((v : Int), 0) | none => (0, 5) := by simp [valParse, hn, e2]
      generalize valParse en t s = R at hp ⊢
      simp [f_value_Parse, h1, hn, e2, hsz]
      refine loop_upd (tySize en t) (fun v => !decide ((valText en t v).2 = 0 ∧ (valText en t v).1 = s)) (fun v (x : PV × PV × PV) => [(7, x.1), (8, x.2.1), (9, x.2.2), (11, .int .i64 v)]) (fun _ _ => h) (.dead, .dead, .dead) ?_ ?_ ?_ rfl rfl
      · intro v hv hz x ih
        have hw := wrap_succ v (by omega)
        have hvt := value_text hL en t v ht ⟨by omega, by omega⟩ false []
        simp only [Bool.not_eq_true', decide_eq_false_iff_not, not_and] at hz
        by_cases he : (valText en t v).2 = 0
        · have he2 := hz he
          simp [hv, hvt, he, he2, hw]
          simpa using ih (_, _, _)
        · simp [hv, hvt, he, hw]
          simpa using ih (_, _, _)
      · intro v hv hz hk x
        have hf := find_range (p := fun v : Nat => decide ((valText en t v).2 = 0 ∧ (valText en t v).1 = s)) hv (by simpa using hz) (fun k hk' => by have := hk k hk'; simp only [Bool.not_eq_true'] at this; exact this)
        rw [hf] at hp
        have hvt := value_text hL en t v ht ⟨by omega, by omega⟩ false []
        simp only [Bool.not_eq_false', decide_eq_true_eq] at hz
        simp [hv, hvt, hz.1, hz.2, hp]
      · intro hz x
        have hf := find_range_no (n := tySize en t) (p := fun v : Nat => decide ((valText en t v).2 = 0 ∧ (valText en t v).1 = s)) (fun k hk => by have := hz k hk; simp only [Bool.not_eq_true'] at this; exact this)
        rw [hf] at hp
        simp [hp]
theorem index_nl (s : Str) (h : List PObj) : callL L 53 [.str s, .str [10]] h = some (.int .i64 (Go.Lib.indexByte s 10), h) := by
  refine callL_wp (hL 53 _ rfl) rfl ?_
  have h1 : callL L 59 [.str s, .int .u8 10] [] = some (.int .i64 (Go.Lib.indexByte s 10), []) := by
    rw [callL_prim (hL 59 _ rfl) rfl rfl]
    rfl
  simp [f_internal_stringslite_Index, h1]
  try (intro e; subst e; rfl)
theorem cut_no (s : Str) (hs : (10 : UInt8) ∉ s) (h : List PObj) : callL L 26 [.str s, .str [10]] h = some (.tuple [.str s, .str [], .bool false], h) := by
  have h1 := index_nl hL s []
  rw [indexByte_no 10 s hs] at h1
  have h2 : callL L 39 [.str s, .str [10]] [] = some (.tuple [.str s, .str [], .bool false], []) := by
    refine callL_wp (hL 39 _ rfl) rfl ?_
    simp [f_internal_stringslite_Cut, h1]
  refine callL_wp (hL 26 _ rfl) rfl ?_
  simp [f_strings_Cut, h2]
theorem cut_at (a r : Str) (ha : (10 : UInt8) ∉ a) (hl : Len (a.length + r.length + 1)) (h : List PObj) : callL L 26 [.str (a ++ 10 :: r), .str [10]] h = some (.tuple [.str a, .str r, .bool true], h) := by
  have h1 := index_nl hL (a ++ 10 :: r) []
  rw [indexByte_cut 10 a r ha] at h1
  have hw := wrap_succ a.length (by unfold Len at hl; omega)
  have e1 : (a ++ 10 :: r).take a.length = a := by simp
  have e2 : (a ++ 10 :: r).drop (a.length + 1) = r := by
    rw [List.drop_append]; simp
  have e3 : a.length < (a ++ 10 :: r).length := by simp
  generalize a ++ 10 :: r = s at *
  have h2 : callL L 39 [.str s, .str [10]] [] = some (.tuple [.str a, .str r, .bool true], []) := by
    refine callL_wp (hL 39 _ rfl) rfl ?_
    have f1 : (a.length : Int) ≤ s.length := by omega
    have f2 : (a.length : Int) + 1 ≤ s.length := by omega
    have f3 : (0 : Int) ≤ (a.length : Int) + 1 := by omega
    have f4 : ((a.length : Int) + 1).toNat = a.length + 1 := by omega
    simp [f_internal_stringslite_Cut, h1, hw, f1, f2, f3, f4, e1, e2]
  refine callL_wp (hL 26 _ rfl) rfl ?_
  simp [f_strings_Cut, h2]
end
end PI.Tr
set_option maxRecDepth 100000
set_option linter.unusedSimpArgs false
set_option linter.unusedVariables false
namespace PI.Tr
open Go (IntKind BinOp UnOp)
def wordsOf (s : Str) : List Str := if s = [] then [] else split 32 s
theorem read_step (s : Str) (pos : Nat) (hp : pos < s.length) :
    (((Go.Utf8.decode ⟨s.toArray⟩ pos).1 = 32 ∧ frm 32 s (pos + (Go.Utf8.decode ⟨s.toArray⟩ pos).2) = pos + 1 ∧ pcs 32 s (pos + (Go.Utf8.decode ⟨s.toArray⟩ pos).2) = pcs 32 s pos ++ [(s.take pos).drop (frm 32 s pos)]) ∨
     ((Go.Utf8.decode ⟨s.toArray⟩ pos).1 ≠ 32 ∧ frm 32 s (pos + (Go.Utf8.decode ⟨s.toArray⟩ pos).2) = frm 32 s pos ∧ pcs 32 s (pos + (Go.Utf8.decode ⟨s.toArray⟩ pos).2) = pcs 32 s pos)) ∧
    1 ≤ (Go.Utf8.decode ⟨s.toArray⟩ pos).2 ∧ pos + (Go.Utf8.decode ⟨s.toArray⟩ pos).2 ≤ s.length := by
  obtain ⟨h1, h2, h3, h4⟩ := decode_ascii' s pos hp 32 (by decide)
  refine ⟨?_, h2, h3⟩
  generalize (Go.Utf8.decode ⟨s.toArray⟩ pos).1 = r at *
  generalize (Go.Utf8.decode ⟨s.toArray⟩ pos).2 = w at *
  obtain ⟨w, rfl⟩ : ∃ m, w = m + 1 := ⟨w - 1, by omega⟩
  have hb : ∀ k, pos < k → k < pos + (w + 1) → s[k]? ≠ some (32 : UInt8) := fun k a b e => by
    have := h4 k a b _ e
    simp at this
  have e : pos + (w + 1) = (pos + 1) + w := by omega
  rw [e]
  obtain ⟨s1, s2⟩ := frm_skip 32 s (pos + 1) w (fun k a b => hb k (by omega) (by omega))
  rw [s1, s2]
  by_cases hr : r = 32
  · have hc : s[pos]? = some (32 : UInt8) := by
      rw [List.getElem?_eq_getElem hp]
      congr 1
      exact UInt8.toNat_inj.1 (by simpa using h1.1 hr)
    exact .inl ⟨hr, by simp only [frm, if_pos hc], by simp only [pcs, if_pos hc]⟩
  · have hc : s[pos]? ≠ some (32 : UInt8) := by
      rw [List.getElem?_eq_getElem hp]
      intro e
      simp at e
      exact hr (h1.2 (by rw [e]; rfl))
    exact .inr ⟨hr, by simp only [frm, if_neg hc], by simp only [pcs, if_neg hc]⟩
section
variable {L : Nat → Option PFunc} (hL : ∀ k f, Lc k = some f → L k = some f)
include hL
theorem words_loop (s : Str) (hs : s.length ≤ 2147483647) (h : List PObj) {Q : PExit → St → Prop}
    (hk : ∀ x4 x5 x7, Q (.exit 0) ⟨[.str s, .list true [], .list true ((pcs 32 s s.length).map .str), .int .i64 (frm 32 s s.length), x4, x5, .ptr h.length 0, x7], [], 0, h ++ [.siter s s.length]⟩) :
    ∀ (d pos : Nat), pos + d = s.length → ∀ x4 x5 x7, wpL L f_trace_words_l0 ⟨[.str s, .list true [], .list true ((pcs 32 s pos).map .str), .int .i64 (frm 32 s pos), x4, x5, .ptr h.length 0, x7], [], 0, h ++ [.siter s pos]⟩ Q := by
  have _ := hL
  intro d
  induction d using Nat.strongRecOn with
  | _ d ih =>
    intro pos hp x4 x5 x7
    unfold f_trace_words_l0
    rw [wpL_loop]
    by_cases hd : d = 0
    · subst hd
      have : pos = s.length := by omega
      subst this
      simp
      exact hk _ _ _
    · have hlt : pos < s.length := by omega
      obtain ⟨hst, hw1, hw2⟩ := read_step s pos hlt
      have hle := frm_le 32 s pos
      have hpl := pcs_len 32 s pos
      have hws := wrap_succ pos (by omega)
      have := ih (s.length - (pos + (Go.Utf8.decode ⟨s.toArray⟩ pos).2)) (by omega) (pos + (Go.Utf8.decode ⟨s.toArray⟩ pos).2) (by omega)
      generalize hr : (Go.Utf8.decode ⟨s.toArray⟩ pos).1 = r at *
      generalize hw : (Go.Utf8.decode ⟨s.toArray⟩ pos).2 = w at *
      rcases hst with ⟨e1, e2, e3⟩ | ⟨e1, e2, e3⟩
      · rw [e2, e3] at this
        subst e1
        have hp1 : pos ≤ s.length := by omega
        have hpl2 : (pcs 32 s pos).length ≤ 2147483647 := by omega
        simp [hlt, hr, hw, hle, hws, hp1, hpl2]
        have t := this (.int .i64 pos) (.int .i32 32) (.tuple [.bool true, .int .i64 pos, .int .i32 32])
        simp only [List.map_append, List.map_cons, List.map_nil, Int.natCast_add, Int.cast_ofNat_Int] at t
        exact t
      · rw [e2, e3] at this
        have e1' : ¬ (r : Int) = 32 := by omega
        simp [hlt, e1, e1', hr, hw]
        exact this _ _ _
theorem trace_words (s : Str) (hs : s.length ≤ 2147483647) (h : List PObj) : ∃ h', callL L 27 [.str s] h = some (.list true ((wordsOf s).map .str), h') := by
  suffices H : ∃ r, callL L 27 [.str s] h = some r ∧ r.1 = .list true ((wordsOf s).map .str) by
    obtain ⟨⟨v, h'⟩, h1, h2⟩ := H
    exact ⟨h', by rw [h1]; simp at h2; rw [h2]⟩
  refine callL_wpP (hL 27 _ rfl) rfl ?_
  by_cases h0 : s = []
  · subst h0
    simp [f_trace_words, wordsOf, endP]
  · have hle := frm_le 32 s s.length
    have hpl := pcs_len 32 s s.length
    have hpl2 : (pcs 32 s s.length).length ≤ 2147483647 := by omega
    have hsp := split_eq 32 s
    have hwd : wordsOf s = split 32 s := if_neg h0
    rw [hwd, hsp]
    simp [f_trace_words, h0]
    refine words_loop hL s hs h ?_ s.length 0 (by omega) _ _ _
    intro x4 x5 x7
    simp [hle, hpl2, endP]
end
end PI.Tr
set_option maxRecDepth 100000
set_option linter.unusedSimpArgs false
set_option linter.unusedVariables false
namespace PI
section
variable {L : Nat → Option PFunc} {Q : PExit → St → Prop}
theorem loop_inv {γ : Type} {c : PC} (n : Nat) (ok : Nat → Bool) (I : Nat → γ → Prop) (S : Nat → γ → St)
    (step : ∀ i, i < n → ok i = true → ∀ x, I i x → (∀ y, I (i + 1) y → wpL L (.loop c) (S (i + 1) y) Q) → wpL L c (S i x) (loopK L c Q))
    (fail : ∀ i, i < n → ok i = false → (∀ k, k < i → ok k = true) → ∀ x, I i x → wpL L c (S i x) (loopK L c Q))
    (last : (∀ k, k < n → ok k = true) → ∀ x, I n x → wpL L c (S n x) (loopK L c Q)) (x : γ) (h0 : I 0 x) : wpL L (.loop c) (S 0 x) Q := by
  have key : ∀ (d i : Nat), i + d = n → (∀ k, k < i → ok k = true) → ∀ x, I i x → wpL L (.loop c) (S i x) Q := by
    intro d
    induction d with
    | zero =>
      intro i hi hk x hx
      rw [wpL_loop]
      have : i = n := by omega
      subst this
      exact last hk x hx
    | succ d ih =>
      intro i hi hk x hx
      rw [wpL_loop]
      cases ho : ok i with
      | true =>
        refine step i (by omega) ho x hx (ih (i + 1) (by omega) ?_)
        intro k hk'
        by_cases e : k = i
        · rw [e]; exact ho
        · exact hk k (by omega)
      | false => exact fail i (by omega) ho hk x hx
  exact key n 0 (by omega) (fun k h => absurd h (Nat.not_lt_zero k)) x h0
end
end PI
namespace PI.Tr
open Go (IntKind BinOp UnOp)
@[simp] theorem flat_rowp (n sz k : Nat) (a : Bool) : (PV.rowp n sz a k).flat = true := rfl
@[simp] theorem cells_agg (cs : List PV) : (PV.agg cs).cells = cs := rfl
def flat (cols : List Decl) : List PV := cols.flatMap fun d => (eDecl d).cells
@[simp] theorem flat_len (cols : List Decl) : (flat cols).length = cols.length * 3 := by
  induction cols with
  | nil => rfl
  | cons d r ih => simp only [flat, List.flatMap_cons, List.length_append] at ih ⊢; rw [ih]; simp; omega
@[simp] theorem flat_dem' (cols : List Decl) : (flat cols).map dem = flat cols := by
  induction cols with
  | nil => rfl
  | cons d r ih => simp only [flat, List.flatMap_cons, List.map_append] at ih ⊢; rw [ih]; rfl
theorem flat_snoc (cols : List Decl) (d : Decl) : flat (cols ++ [d]) = flat cols ++ (eDecl d).cells := by simp [flat]
theorem flat_rowEls : ∀ (cols : List Decl) (pre : List PV), rowEls 3 true (pre ++ flat cols) cols.length pre.length = some (cols.map eDecl)
  | [], pre => rfl
  | d :: r, pre => by
    have ih := flat_rowEls r (pre ++ (eDecl d).cells)
    have e : flat (d :: r) = (eDecl d).cells ++ flat r := rfl
    simp only [List.length_cons, rowEls, e]
    rw [show pre ++ ((eDecl d).cells ++ flat r) = pre ++ (eDecl d).cells ++ flat r by simp]
    rw [show pre.length + 3 = (pre ++ (eDecl d).cells).length by simp]
    rw [ih]
    have hl : loadFrom 3 true (pre ++ (eDecl d).cells ++ flat r) pre.length = some (eDecl d) := by
      simp [loadFrom, List.append_assoc, List.drop_append]
    rw [hl]; simp
def ColsAt (h : List PObj) (n : Nat) (C : PV) (cols : List Decl) : Prop :=
  (cols = [] ∧ C = .list true []) ∨ (∃ m, m ≠ n ∧ C = .rowp m 3 true cols.length ∧ h[m]? = some (.cells (flat cols)))
def PS (n : Nat) (en : List Enum) (cols : List Decl) (R : PV) (h : List PObj) : Prop :=
  ∃ C, h[n]? = some (.cells [.list false (en.map eEnum), C, R]) ∧ ColsAt h n C cols
def nameCol (s : Str) : Decl := ⟨s, 0, []⟩
def nameErr (l : List Str) (i : Nat) : Int := if !ident (l.getD i []) then 6 else if l.getD i [] ∈ l.take i then 7 else 0
def namesErr (l : List Str) : Int := if 384 < l.length then 3 else firstErr l.length (nameErr l)
section
variable {L : Nat → Option PFunc} (hL : ∀ k f, Lc k = some f → L k = some f)
include hL
theorem parser_names (n : Nat) (en : List Enum) (l : List Str) (R : PV) (o : Bool) (h : List PObj) (hp : PS n en [] R h) :
    ∃ h', callL L 28 [.ptr n 0, .list o (l.map .str)] h = some (.int .i64 (namesErr l), h') ∧ (namesErr l = 0 → PS n en (l.map nameCol) R h') := by
  suffices H : ∃ r, callL L 28 [.ptr n 0, .list o (l.map .str)] h = some r ∧ (r.1 = .int .i64 (namesErr l) ∧ (namesErr l = 0 → PS n en (l.map nameCol) R r.2)) by
    obtain ⟨⟨v, h'⟩, h1, h2, h3⟩ := H
    exact ⟨h', by rw [h1]; simp at h2; rw [h2], h3⟩
  refine callL_wpP (hL 28 _ rfl) rfl ?_
  obtain ⟨C, hn, hC⟩ := hp
  have hnl : n < h.length := (List.getElem?_eq_some_iff.1 hn).1
  by_cases h1 : 384 < l.length
  · have h1' : (384 : Int) < l.length := by omega
    simp [f_trace_parser_names, h1, h1', endP, namesErr]
  · have h1' : ¬ (384 : Int) < l.length := by omega
    have he : namesErr l = firstErr l.length (nameErr l) := if_neg h1
    generalize namesErr l = E at he ⊢
    simp [f_trace_parser_names, h1']
    refine loop_inv l.length (fun i => decide (nameErr l i = 0)) (fun i (x : PV × List PObj) => PS n en ((l.take i).map nameCol) R x.2 ∧ x.2[h.length]? = some (.map (smap (l.take i))))
      (fun i x => ⟨[.ptr n 0, .list false (l.map .str), .int .i64 0, .map (some h.length), x.1, .list false (l.map .str), .int .i64 l.length, .int .i64 i], [], 0, x.2⟩) ?_ ?_ ?_ (.dead, h ++ [.map []]) ?_
    · intro i hi hz ⟨x4, hh⟩ ⟨⟨C, hn, hC⟩, hM⟩ ih
      have hw := wrap_succ i (by omega)
      simp only [nameErr, List.getD, List.getElem?_eq_getElem hi, Option.getD_some, decide_eq_true_eq] at hz
      have e1 : ident l[i] = true := by
        cases hx : ident l[i] with
        | true => rfl
        | false => rw [hx] at hz; simp at hz
      rw [if_neg (by simp [e1])] at hz
      have e2 : l[i] ∉ l.take i := by
        intro hx; rw [if_pos hx] at hz; simp at hz
      have hm := smap_no (i := 0) e2
      have hs : smap (l.take i) ++ [(.str l[i], .bool true)] = smap (l.take (i + 1)) := by rw [smap_snoc, take_succ' hi]
      have hnM : n ≠ h.length := by omega
      have hnM' : ¬ h.length = n := by omega
      have hnl2 : n < hh.length := (List.getElem?_eq_some_iff.1 hn).1
      have hMl2 : h.length < hh.length := (List.getElem?_eq_some_iff.1 hM).1
      rcases hC with ⟨hc, rfl⟩ | ⟨m, hmn, rfl, hm2⟩
      · have hq : ∀ (X : PObj) (cs : List PV) (Y : PObj), ((hh.set h.length X).set n (.cells cs) ++ [Y])[n]? = some (.cells cs) := by
          intro X cs Y
          rw [List.getElem?_append_left (by simpa using hnl2), List.getElem?_set_self (by simpa using hnl2)]
        simp [hi, lex_ident hL, e1, hM, hm, hs, hn, hnM, hnM', hw, hq, List.getElem?_set]
        have hi0 : i = 0 := by
          have : ((l.take i).map nameCol).length = 0 := by rw [hc]; rfl
          simp at this
          rcases this with h | h
          · exact h
          · rw [h] at hi; simp at hi
        subst hi0
        have hfl : flat ((l.take 1).map nameCol) = [.str l[0], .int .i64 0, .list false []] := by
          rw [take_succ' hi]; rfl
        refine ih (_, _) ⟨⟨.rowp hh.length 3 true ((l.take 1).map nameCol).length, ?_, .inr ⟨hh.length, by omega, rfl, ?_⟩⟩, ?_⟩
        · simp [hnl2, show min 1 l.length = 1 by omega]
          rw [List.getElem?_append_left (by simpa using hnl2), List.getElem?_set_self (by simpa using hnl2)]
        · rw [hfl]; simp [hnl2]
        · rw [List.getElem?_set_ne (by omega), List.getElem?_append_left (by simpa using hMl2), List.getElem?_set_ne hnM]; simp [hMl2]
      · have hmM : ¬ m = h.length := by intro e; rw [e, hM] at hm2; simp at hm2
        have hmM' : ¬ h.length = m := fun e => hmM e.symm
        have hml2 : m < hh.length := (List.getElem?_eq_some_iff.1 hm2).1
        have hmin : min i l.length = i := by omega
        have hb : i + 1 ≤ 2147483648 := by omega
        have hmn' : ¬ n = m := fun e => hmn e.symm
        have hq : ∀ X Y : PObj, ((hh.set h.length X).set m .gone ++ [Y])[n]? = some (.cells [.list false (en.map eEnum), .rowp m 3 true i, R]) := by
          intro X Y
          rw [List.getElem?_append_left (by simpa using hnl2), List.getElem?_set_ne hmn, List.getElem?_set_ne hnM']
          simpa [hmin] using hn
        simp [hi, lex_ident hL, e1, hM, hm, hs, hn, hm2, hnM, hnM', hmM, hmM', hmn, hmn', hw, hmin, hb, hq, List.getElem?_set]
        have hfl : flat ((l.take (i + 1)).map nameCol) = flat (List.take i (List.map nameCol l)) ++ [.str l[i], .int .i64 0, .list false []] := by
          rw [take_succ' hi, List.map_append, List.map_take]
          exact flat_snoc _ _
        refine ih (_, _) ⟨⟨.rowp hh.length 3 true ((l.take (i + 1)).map nameCol).length, ?_, .inr ⟨hh.length, by omega, rfl, ?_⟩⟩, ?_⟩
        · simp [hnl2, show min (i + 1) l.length = i + 1 by omega]
          rw [List.getElem?_append_left (by simpa using hnl2), List.getElem?_set_self (by simpa using hnl2)]
        · rw [hfl]; simp [hnl2]
        · rw [List.getElem?_set_ne (by omega), List.getElem?_append_left (by simpa using hMl2), List.getElem?_set_ne hmM]; simp [hMl2]
    · intro i hi hz hk ⟨x4, hh⟩ ⟨⟨C, hn, hC⟩, hM⟩
      have hf := firstErr_at (err := nameErr l) hi (by simpa using hz) (fun k hk' => by simpa using hk k hk')
      rw [hf] at he
      rw [he]
      simp only [nameErr, List.getD, List.getElem?_eq_getElem hi, Option.getD_some, decide_eq_false_iff_not] at hz ⊢
      by_cases e1 : ident l[i] = true
      · rw [if_neg (by simp [e1])] at hz ⊢
        by_cases e2 : l[i] ∈ l.take i
        · obtain ⟨k, hm⟩ := smap_yes (i := 0) e2
          simp [hi, lex_ident hL, e1, e2, hM, hm, endP]
        · rw [if_neg e2] at hz; simp at hz
      · have e1' : ident l[i] = false := by simpa using e1
        simp [hi, lex_ident hL, e1', endP]
    · intro hz ⟨x4, hh⟩ ⟨hps, hM⟩
      have hf := firstErr_no (err := nameErr l) (n := l.length) (fun k hk => by simpa using hz k hk)
      rw [hf] at he
      subst he
      simp [endP]
      simpa using hps
    · refine ⟨⟨C, by rw [List.getElem?_append_left hnl]; exact hn, ?_⟩, by simp [smap]⟩
      rcases hC with hC | ⟨m, h2, h3, h4⟩
      · exact .inl hC
      · exact .inr ⟨m, h2, h3, by rw [List.getElem?_append_left (List.getElem?_eq_some_iff.1 h4).1]; exact h4⟩
end
theorem some_not_none {α : Type} {o : Option α} (h : o.isSome = true) : ¬ o.isNone = true := by cases o <;> simp_all
def typed (en : List Enum) (l : List Str) (cols : List Decl) : Nat → List Decl
  | 0 => cols
  | i + 1 => (typed en l cols i).modify i fun d => ⟨d.name, (typeOf en (l.getD i [])).getD 0, d.clock⟩
@[simp] theorem typed_len (en : List Enum) (l : List Str) (cols : List Decl) (i : Nat) : (typed en l cols i).length = cols.length := by
  induction i with
  | zero => rfl
  | succ i ih => simp [typed, ih]
theorem flat_set : ∀ (cols : List Decl) (i : Nat) (t : Int), i < cols.length → (flat cols).set (i * 3 + 1) (.int .i64 t) = flat (cols.modify i fun d => ⟨d.name, t, d.clock⟩)
  | d :: r, 0, t, _ => rfl
  | d :: r, i + 1, t, h => by
    have ih := flat_set r i t (by simpa using h)
    have e : flat (d :: r) = (eDecl d).cells ++ flat r := rfl
    rw [e, show (i + 1) * 3 + 1 = (eDecl d).cells.length + (i * 3 + 1) by simp; omega, List.set_append_right _ _ (by omega), Nat.add_sub_cancel_left, ih]
    rfl
def typesErr (en : List Enum) (l : List Str) (cols : List Decl) : Int :=
  if l.length ≠ cols.length then 9 else firstErr l.length (fun i => if (typeOf en (l.getD i [])).isNone then 10 else 0)
section
variable {L : Nat → Option PFunc} (hL : ∀ k f, Lc k = some f → L k = some f)
include hL
theorem parser_types (n : Nat) (en : List Enum) (hen : EOK en) (l : List Str) (cols : List Decl) (hlen : cols.length ≤ 384) (R : PV) (o : Bool) (h : List PObj) (hp : PS n en cols R h) :
    ∃ h', callL L 29 [.ptr n 0, .list o (l.map .str)] h = some (.int .i64 (typesErr en l cols), h') ∧ (typesErr en l cols = 0 → PS n en (typed en l cols l.length) R h') := by
  suffices H : ∃ r, callL L 29 [.ptr n 0, .list o (l.map .str)] h = some r ∧ (r.1 = .int .i64 (typesErr en l cols) ∧ (typesErr en l cols = 0 → PS n en (typed en l cols l.length) R r.2)) by
    obtain ⟨⟨v, h'⟩, h1, h2, h3⟩ := H
    exact ⟨h', by rw [h1]; simp at h2; rw [h2], h3⟩
  refine callL_wpP (hL 29 _ rfl) rfl ?_
  obtain ⟨C, hn, hC⟩ := hp
  have hnl : n < h.length := (List.getElem?_eq_some_iff.1 hn).1
  have hCl : ∃ b, (C = .list b [] ∧ cols.length = 0) ∨ ∃ m, C = .rowp m 3 true cols.length := by
    rcases hC with ⟨rfl, rfl⟩ | ⟨m, _, rfl, _⟩
    · exact ⟨true, .inl ⟨rfl, rfl⟩⟩
    · exact ⟨true, .inr ⟨m, rfl⟩⟩
  by_cases h1 : l.length = cols.length
  · have h1' : (l.length : Int) = cols.length := by omega
    have he : typesErr en l cols = firstErr l.length (fun i => if (typeOf en (l.getD i [])).isNone then 10 else 0) := if_neg (by simpa using h1)
    generalize typesErr en l cols = E at he ⊢
    have go : wpL L f_trace_parser_types_l0 ⟨[.ptr n 0, .list false (l.map .str), .int .i64 0, .dead, .dead, .dead, .dead, .list false (l.map .str), .int .i64 l.length, .int .i64 0], [], 0, h⟩ (blockK 0 (seqK L ((PC.region [⟨.v 2, .take (.c (.int .i64 0)), none⟩]).seq PC.ret) (endP [PRes.var 2] fun r => r.1 = PV.int .i64 E ∧ (E = 0 → PS n en (typed en l cols l.length) R r.2)))) := by
      unfold f_trace_parser_types_l0
      refine loop_inv l.length (fun i => (typeOf en (l.getD i [])).isSome) (fun i (x : (PV × PV × PV × PV) × List PObj) => PS n en (typed en l cols i) R x.2)
        (fun i x => ⟨[.ptr n 0, .list false (l.map .str), .int .i64 0, x.1.1, x.1.2.1, x.1.2.2.1, x.1.2.2.2, .list false (l.map .str), .int .i64 l.length, .int .i64 i], [], 0, x.2⟩) ?_ ?_ ?_ ((.dead, .dead, .dead, .dead), h) ⟨C, hn, hC⟩
      · intro i hi hz ⟨x, hh⟩ ⟨C, hn, hC⟩ ih
        have hw := wrap_succ i (by omega)
        simp only [List.getD, List.getElem?_eq_getElem hi, Option.getD_some] at hz
        have ht := value_type hL en hen l[i] false []
        have hnl2 : n < hh.length := (List.getElem?_eq_some_iff.1 hn).1
        rcases hC with ⟨hc, rfl⟩ | ⟨m, hmn, rfl, hm2⟩
        · exfalso
          have : (typed en l cols i).length = 0 := by rw [hc]; rfl
          rw [typed_len] at this
          omega
        · have hml2 : m < hh.length := (List.getElem?_eq_some_iff.1 hm2).1
          have hil : (i : Int) < cols.length := by omega
          have hil2 : i * 3 + 1 < cols.length * 3 := by omega
          have hmn' : ¬ n = m := fun e => hmn e.symm
          have hset := flat_set (typed en l cols i) i ((typeOf en l[i]).getD 0) (by simp; omega)
          simp [hi, ht, hz, hn, hm2, hw, hil, hil2, hset]
          refine ih ((_, _, _, _), _) ⟨_, ?_, .inr ⟨m, hmn, rfl, ?_⟩⟩
          · rw [List.getElem?_set_ne hmn]; simpa using hn
          · rw [List.getElem?_set_self hml2]; simp [typed, List.getD, hi]
      · intro i hi hz hk ⟨x, hh⟩ ⟨C, hn, hC⟩
        have hf := firstErr_at (err := fun i => if (typeOf en (l.getD i [])).isNone then 10 else 0) hi (by simp at hz ⊢; simp [hz]) (fun k hk' => if_neg (some_not_none (hk k hk')))
        rw [hf] at he
        simp only [List.getD, List.getElem?_eq_getElem hi, Option.getD_some] at hz he
        have ht := value_type hL en hen l[i] false []
        have hz' : typeOf en l[i] = none := by simpa using hz
        rw [hz'] at he
        simp at he
        subst he
        simp [hi, ht, hz', hn, endP]
      · intro hz ⟨x, hh⟩ hps
        have hf := firstErr_no (err := fun i => if (typeOf en (l.getD i [])).isNone then (10 : Int) else 0) (n := l.length) (fun k hk => if_neg (some_not_none (hz k hk)))
        rw [hf] at he
        subst he
        simp [endP]
        exact hps
    obtain ⟨b, ⟨rfl, h0⟩ | ⟨m, rfl⟩⟩ := hCl
    · have h0' : (l.length : Int) = 0 := by omega
      simp [f_trace_parser_types, hn, h0, h1, h0']
      simpa [h0, h1] using go
    · simp [f_trace_parser_types, hn, h1']
      simpa [h1'] using go
  · have h1' : ¬ (l.length : Int) = cols.length := by omega
    have he : typesErr en l cols = 9 := if_pos h1
    rw [he]
    obtain ⟨b, ⟨rfl, h0⟩ | ⟨m, rfl⟩⟩ := hCl
    · have hl0 : ¬ l = [] := by rintro rfl; exact h1 (by simpa using h0.symm)
      simp [f_trace_parser_types, hn, hl0, endP]
    · simp [f_trace_parser_types, hn, h1', endP]
end
end PI.Tr
set_option maxRecDepth 100000
set_option linter.unusedSimpArgs false
set_option linter.unusedVariables false
namespace PI.Tr
open Go (IntKind BinOp UnOp)
theorem flat_type : ∀ (cols : List Decl) (i : Nat) (h : i < cols.length), (flat cols)[i * 3 + 1]? = some (.int .i64 cols[i].type)
  | d :: r, 0, _ => rfl
  | d :: r, i + 1, h => by
    have e : flat (d :: r) = (eDecl d).cells ++ flat r := rfl
    rw [e, show (i + 1) * 3 + 1 = (eDecl d).cells.length + (i * 3 + 1) by simp; omega, List.getElem?_append_right (by omega), Nat.add_sub_cancel_left, flat_type r i (by simpa using h)]
    rfl
def parseCell (en : List Enum) (t : Int) (s : Str) : Option Cell :=
  if s = [45] then some ⟨0, 0⟩ else if s = [63] then some ⟨2, 0⟩ else if (valParse en t s).2 = 0 then some ⟨1, (valParse en t s).1⟩ else none
def cellAt (en : List Enum) (cols : List Decl) (l : List Str) (k : Nat) : Option Cell := parseCell en (cols.getD k default).type (l.getD k [])
def lineErr (en : List Enum) (cols : List Decl) (rows : List Row) (l : List Str) : Int :=
  if rows.length = 4096 then 3 else if l.length ≠ cols.length then 9 else firstErr l.length (fun i => if (cellAt en cols l i).isNone then 5 else 0)
def lineCells (en : List Enum) (cols : List Decl) (l : List Str) (n : Nat) : List Cell := (List.range n).map fun k => (cellAt en cols l k).getD zeroCell
theorem lineCells_succ (en : List Enum) (cols : List Decl) (l : List Str) (n : Nat) : lineCells en cols l (n + 1) = lineCells en cols l n ++ [(cellAt en cols l n).getD zeroCell] := by simp [lineCells, List.range_succ]
@[simp] theorem lineCells_len (en : List Enum) (cols : List Decl) (l : List Str) (n : Nat) : (lineCells en cols l n).length = n := by simp [lineCells]
section
variable {L : Nat → Option PFunc} (hL : ∀ k f, Lc k = some f → L k = some f)
include hL
theorem parser_row (n : Nat) (en : List Enum) (hen : EOK en) (l : List Str) (hl : ∀ s ∈ l, s.length ≤ 281474976710656) (cols : List Decl) (hcols : ∀ d ∈ cols, I64 d.type) (hlen : cols.length ≤ 384) (rows : List Row) (hrows : rows.length ≤ 4096) (o : Bool) (h : List PObj) (hp : PS n en cols (.list true (rows.map eRow)) h) :
    ∃ h', callL L 30 [.ptr n 0, .list o (l.map .str)] h = some (.int .i64 (lineErr en cols rows l), h') ∧ (lineErr en cols rows l = 0 → PS n en cols (.list true ((rows ++ [lineCells en cols l l.length]).map eRow)) h') := by
  suffices H : ∃ r, callL L 30 [.ptr n 0, .list o (l.map .str)] h = some r ∧ (r.1 = .int .i64 (lineErr en cols rows l) ∧ (lineErr en cols rows l = 0 → PS n en cols (.list true ((rows ++ [lineCells en cols l l.length]).map eRow)) r.2)) by
    obtain ⟨⟨v, h'⟩, h1, h2, h3⟩ := H
    exact ⟨h', by rw [h1]; simp at h2; rw [h2], h3⟩
  refine callL_wpP (hL 30 _ rfl) rfl ?_
  obtain ⟨C, hn, hC⟩ := hp
  have hnl : n < h.length := (List.getElem?_eq_some_iff.1 hn).1
  have hCl : (C = .list true [] ∧ cols = []) ∨ ∃ m, m ≠ n ∧ C = .rowp m 3 true cols.length ∧ h[m]? = some (.cells (flat cols)) := by
    rcases hC with ⟨h1, h2⟩ | h1
    · exact .inl ⟨h2, h1⟩
    · exact .inr h1
  by_cases h0 : rows.length = 4096
  · have he : lineErr en cols rows l = 3 := if_pos h0
    rw [he]
    simp [f_trace_parser_row, hn, h0, endP]
  · have h0' : ¬ (rows.length : Int) = 4096 := by omega
    by_cases h1 : l.length = cols.length
    · have h1' : (l.length : Int) = cols.length := by omega
      have he : lineErr en cols rows l = firstErr l.length (fun i => if (cellAt en cols l i).isNone then 5 else 0) := by rw [lineErr, if_neg h0, if_neg (by simpa using h1)]
      generalize lineErr en cols rows l = E at he ⊢
      have go : wpL L f_trace_parser_row_l0 ⟨[.ptr n 0, .list false (l.map .str), .int .i64 0, .list true [], .dead, .dead, .dead, .dead, .dead, .list false (l.map .str), .int .i64 l.length, .int .i64 0, .dead], [], 0, h⟩ (blockK 0 (seqK L (((PC.region [⟨.l, .mov (.v 0), none⟩,
  ⟨.l, .mov (.v 0), none⟩,
  ⟨.l, .h (.nilchk (.l 1)), none⟩,
  ⟨.l, .faddr 1 (.l 2), none⟩,
  ⟨.l, .faddr 1 (.l 3), none⟩,
  ⟨.l, .h (.load 1 false (.l 4) true), none⟩,
  ⟨.l, .mov (.v 3), none⟩,
  ⟨.l, .mkslice 1 (.list true []) 1 [(0, (.l 6))], none⟩,
  ⟨.l, .append 1 24 (.l 5) (.l 7), none⟩,
  ⟨.l, .h (.nilchk (.l 0)), none⟩,
  ⟨.l, .faddr 1 (.l 9), none⟩,
  ⟨.l, .faddr 1 (.l 10), none⟩,
  ⟨.n, .h (.store 1 false (.l 11) (.l 8)), none⟩]).seq ((PC.region [⟨.v 2, .take (.c (.int .i64 0)), none⟩]).seq PC.ret))) (endP [PRes.var 2] fun r => r.1 = PV.int .i64 E ∧ (E = 0 → PS n en cols (.list true ((rows ++ [lineCells en cols l l.length]).map eRow)) r.2)))) := by
        unfold f_trace_parser_row_l0
        refine loop_updG l.length (fun i => (cellAt en cols l i).isSome) (fun i (x : (PV × PV × PV × PV × PV) × PV) => [(3, .list true ((lineCells en cols l i).map eCell)), (4, x.1.1), (5, x.1.2.1), (6, x.1.2.2.1), (7, x.1.2.2.2.1), (8, x.1.2.2.2.2), (11, .int .i64 i), (12, x.2)]) (fun i _ => i) (fun _ _ => h) ((.dead, .dead, .dead, .dead, .dead), .dead) ?_ ?_ ?_ rfl rfl rfl
        · intro i hi hz x ih
          have hw := wrap_succ i (by omega)
          rcases hCl with ⟨rfl, rfl⟩ | ⟨m, hmn, rfl, hm2⟩
          · simp at h1; rw [h1] at hi; simp at hi
          · have hic : i < cols.length := by omega
            have hic' : (i : Int) < cols.length := by omega
            have hft := flat_type cols i hic
            have hvp := value_parse hL en hen cols[i].type (hcols _ (List.getElem_mem hic)) l[i] (hl _ (List.getElem_mem hi)) false []
            have hsucc := lineCells_succ en cols l i
            have hb : i + 1 ≤ 2147483648 := by omega
            simp only [cellAt, List.getD, List.getElem?_eq_getElem hi, List.getElem?_eq_getElem hic, Option.getD_some] at hz hsucc
            have z0 : PV.agg [.int .i64 0, .int .i64 0] = eCell ⟨0, 0⟩ := rfl
            have z2 : PV.agg [.int .i64 2, .int .i64 0] = eCell ⟨2, 0⟩ := rfl
            have z1 : ∀ v : Int, PV.agg [.int .i64 1, .int .i64 v] = eCell ⟨1, v⟩ := fun _ => rfl
            unfold parseCell at hz hsucc
            by_cases s1 : l[i] = [45]
            · rw [if_pos s1] at hsucc
              simp [hi, s1, hw, hb]
              simpa [hsucc, z0, z1, z2] using ih ((_, _, _, _, _), _)
            · by_cases s2 : l[i] = [63]
              · rw [if_neg s1, if_pos s2] at hsucc
                simp [hi, s2, hw, hb]
                simpa [hsucc, z0, z1, z2] using ih ((_, _, _, _, _), _)
              · rw [if_neg s1, if_neg s2] at hz hsucc
                by_cases s3 : (valParse en cols[i].type l[i]).2 = 0
                · rw [if_pos s3] at hsucc
                  simp [hi, s1, s2, s3, hw, hb, hn, hm2, hic', hft, hvp]
                  simpa [hsucc, z0, z1, z2] using ih ((_, _, _, _, _), _)
                · rw [if_neg s3] at hz; simp at hz
        · intro i hi hz hk x
          have hf := firstErr_at (err := fun i => if (cellAt en cols l i).isNone then (5 : Int) else 0) hi (by simp at hz ⊢; simp [hz]) (fun k hk' => if_neg (some_not_none (hk k hk')))
          rw [hf] at he
          have hz' : cellAt en cols l i = none := by simpa using hz
          rw [hz'] at he
          simp at he
          subst he
          rcases hCl with ⟨rfl, rfl⟩ | ⟨m, hmn, rfl, hm2⟩
          · simp at h1; rw [h1] at hi; simp at hi
          · have hic : i < cols.length := by omega
            have hic' : (i : Int) < cols.length := by omega
            have hft := flat_type cols i hic
            have hvp := value_parse hL en hen cols[i].type (hcols _ (List.getElem_mem hic)) l[i] (hl _ (List.getElem_mem hi)) false []
            simp only [cellAt, List.getD, List.getElem?_eq_getElem hi, List.getElem?_eq_getElem hic, Option.getD_some] at hz'
            unfold parseCell at hz'
            by_cases s1 : l[i] = [45]
            · rw [if_pos s1] at hz'; simp at hz'
            · by_cases s2 : l[i] = [63]
              · rw [if_neg s1, if_pos s2] at hz'; simp at hz'
              · rw [if_neg s1, if_neg s2] at hz'
                by_cases s3 : (valParse en cols[i].type l[i]).2 = 0
                · rw [if_pos s3] at hz'; simp at hz'
                · simp [hi, s1, s2, s3, hn, hm2, hic', hft, hvp, endP]
        · intro hz x
          have hf := firstErr_no (err := fun i => if (cellAt en cols l i).isNone then (5 : Int) else 0) (n := l.length) (fun k hk => if_neg (some_not_none (hz k hk)))
          rw [hf] at he
          subst he
          have hb : rows.length + 1 ≤ 2147483648 := by omega
          have hno : ∀ X Y : PObj, ((h.set n X).set n Y)[n]? = some Y := fun X Y => by rw [List.getElem?_set_self (by simpa using hnl)]
          have hno' : ∀ X : PObj, (h.set n X)[n]? = some X := fun X => by rw [List.getElem?_set_self hnl]
          have hfold : PV.list false ((lineCells en cols l l.length).map eCell) = eRow (lineCells en cols l l.length) := rfl
          simp [hn, hb, hno', hfold, endP]
          refine ⟨C, ?_, ?_⟩
          · simp [hnl]
          · rcases hC with hC | ⟨m, e1, e2, e3⟩
            · exact .inl hC
            · exact .inr ⟨m, e1, e2, by rw [List.getElem?_set_ne (Ne.symm e1)]; exact e3⟩
      rcases hCl with ⟨rfl, rfl⟩ | ⟨m, hmn, rfl, hm2⟩
      · simp at h1
        subst h1
        simp [f_trace_parser_row, hn, h0']
        simpa using go
      · simp [f_trace_parser_row, hn, h0', h1']
        simpa [h1'] using go
    · have h1' : ¬ (l.length : Int) = cols.length := by omega
      have he : lineErr en cols rows l = 9 := by rw [lineErr, if_neg h0, if_pos h1]
      rw [he]
      rcases hCl with ⟨rfl, rfl⟩ | ⟨m, hmn, rfl, hm2⟩
      · have hl0 : ¬ l = [] := by rintro rfl; exact h1 rfl
        simp [f_trace_parser_row, hn, h0', hl0, endP]
      · simp [f_trace_parser_row, hn, h0', h1', endP]
end
end PI.Tr
set_option maxRecDepth 100000
set_option linter.unusedSimpArgs false
set_option linter.unusedVariables false
namespace PI.Tr
open Go (IntKind BinOp UnOp)
def noTrace : Trace := ⟨[], []⟩
def parseL (en : List Enum) : List Str → Nat → List Decl → List Row → Trace × Nat × Int
  | [], n, _, _ => (noTrace, n, 4)
  | [s], n, cols, rows => if s = [] ∧ 2 < n then (⟨cols, rows⟩, 0, 0) else (noTrace, n, 4)
  | w :: r, n, cols, rows =>
    if n = 1 then (if namesErr (wordsOf w) = 0 then parseL en r 2 ((wordsOf w).map nameCol) rows else (noTrace, 1, namesErr (wordsOf w)))
    else if n = 2 then (if typesErr en (wordsOf w) cols = 0 then parseL en r 3 (typed en (wordsOf w) cols (wordsOf w).length) rows else (noTrace, 2, typesErr en (wordsOf w) cols))
    else if lineErr en cols rows (wordsOf w) = 0 then parseL en r (n + 1) cols (rows ++ [lineCells en cols (wordsOf w) (wordsOf w).length]) else (noTrace, n, lineErr en cols rows (wordsOf w))
def parse (en : List Enum) (s : Str) : Trace × Nat × Int := parseL en (split 10 s) 1 [] []
theorem typeOf_I64 {en : List Enum} (hen : EOK en) {s : Str} {t : Int} (h : typeOf en s = some t) : I64 t := by
  unfold typeOf at h
  split at h
  · simp at h; subst h; exact ⟨by decide, by decide⟩
  · split at h
    · simp at h; subst h; exact ⟨by decide, by decide⟩
    · cases hf : en.findIdx? (fun u => decide (u.name = s)) with
      | none => rw [hf] at h; simp at h
      | some i =>
        rw [hf] at h
        simp at h
        subst h
        have := (List.findIdx?_eq_some_iff_getElem.1 hf).1
        have := hen.len
        exact ⟨by omega, by omega⟩
theorem typed_I64 {en : List Enum} (hen : EOK en) (l : List Str) {cols : List Decl} (h : ∀ d ∈ cols, I64 d.type) : ∀ i, ∀ d ∈ typed en l cols i, I64 d.type
  | 0 => h
  | i + 1 => by
    intro d hd
    obtain ⟨k, hk, rfl⟩ := List.mem_iff_getElem.1 hd
    simp only [typed, List.getElem_modify]
    split
    · show I64 ((typeOf en (l.getD i [])).getD 0)
      cases ht : typeOf en (l.getD i []) with
      | none => exact ⟨by decide, by decide⟩
      | some t => exact typeOf_I64 hen ht
    · exact typed_I64 hen l h i _ (List.getElem_mem _)
theorem wordsOf_len (s : Str) : (wordsOf s).length ≤ s.length + 1 := by
  unfold wordsOf
  split
  · simp
  · rw [split_eq]; simp; exact pcs_len 32 s s.length
theorem split_mem (c : UInt8) : ∀ (s : Str), ∀ w ∈ split c s, w.length ≤ s.length
  | [], w, h => by simp [split] at h; subst h; simp
  | b :: r, w, h => by
    simp only [split] at h
    split at h
    · rcases List.mem_cons.1 h with rfl | h
      · simp
      · have := split_mem c r w h; simp; omega
    · have hr := split_mem c r
      cases hs : split c r with
      | nil => exact absurd hs (split_ne c r)
      | cons x xs =>
        rw [hs] at h hr
        rcases List.mem_cons.1 h with rfl | h
        · have := hr x (List.mem_cons_self ..); simp; omega
        · have := hr w (List.mem_cons_of_mem _ h); simp; omega
theorem wordsOf_mem {s w : Str} (h : w ∈ wordsOf s) : w.length ≤ s.length := by
  unfold wordsOf at h
  split at h
  · simp at h
  · exact split_mem 32 s w h
section
variable {L : Nat → Option PFunc} (hL : ∀ k f, Lc k = some f → L k = some f)
include hL
theorem parse_loop (en : List Enum) (hen : EOK en) (p : Nat) (v0 : PV) (res : Trace × Nat × Int) : ∀ (d : Nat) (s : Str), s.length = d → ∀ (n : Nat) (cols : List Decl) (rows : List Row) (h : List PObj) (x7 x8 x9 x10 x11 x13 : PV),
    s.length + n ≤ 2147483000 → 1 ≤ n → (n = 1 → cols = []) → cols.length ≤ 384 → (∀ d ∈ cols, I64 d.type) → rows.length ≤ 4096 → PS p en cols (.list true (rows.map eRow)) h → parseL en (split 10 s) n cols rows = res →
    wpL L f_trace_Parse_l0 ⟨[v0, .str s, .loc 0 [.list true [], .list true []], .int .i64 0, .int .i64 0, .ptr p 0, .int .i64 n, x7, x8, x9, x10, x11, .ptr p 0, x13], [], 1, h⟩
      (blockK 0 (endP [.cell 2 2 true, .var 3, .var 4] fun r => r.1 = .tuple [eTrace res.1, .int .i64 res.2.1, .int .i64 res.2.2])) := by
  intro d
  induction d using Nat.strongRecOn with
  | _ d ih =>
    intro s hsd n cols rows h x7 x8 x9 x10 x11 x13 hsn hn1 hc1 hcl hct hrl hps hres
    unfold f_trace_Parse_l0
    rw [wpL_loop]
    have hw := wrap_succ n (by omega)
    obtain ⟨C, hpn, hC⟩ := hps
    rcases cut_cases 10 s with hno | ⟨a, r, hs, ha⟩
    · have hcut := cut_no hL s hno []
      rw [split_no 10 s hno] at hres
      simp only [parseL] at hres
      have hz : eTrace noTrace = .agg [.list false [], .list false []] := rfl
      by_cases h1 : s = []
      · subst h1
        by_cases h2 : 2 < n
        · have h2' : (2 : Int) < n := by omega
          rw [if_pos ⟨rfl, h2⟩] at hres
          subst hres
          have hfe := flat_rowEls cols []
          simp only [List.nil_append, List.length_nil] at hfe
          have het : eTrace ⟨cols, rows⟩ = .agg [.list false (cols.map eDecl), .list false (rows.map eRow)] := rfl
          rw [het]
          rcases hC with ⟨rfl, rfl⟩ | ⟨m, hmn, rfl, hm2⟩
          · simp [hcut, h2', hpn, endP]
          · simp [hcut, h2', hpn, endP, hm2, hfe]
        · have h2' : ¬ (2 : Int) < n := by omega
          rw [if_neg (fun h => h2 h.2)] at hres
          subst hres
          simp [hcut, h2', endP, hz]
      · rw [if_neg (fun h => h1 h.1)] at hres
        subst hres
        simp [hcut, h1, endP, hz]
    · have hz : eTrace noTrace = .agg [.list false [], .list false []] := rfl
      have hlen : a.length + r.length + 1 = s.length := by rw [hs]; simp; omega
      have hcut := cut_at hL a r ha (by unfold Len; omega) []
      rw [← hs] at hcut
      have hsp : split 10 s = a :: split 10 r := by rw [hs]; exact split_cut 10 a r ha
      obtain ⟨b, rest, hbr⟩ : ∃ b rest, split 10 r = b :: rest := by
        cases hx : split 10 r with
        | nil => exact absurd hx (split_ne 10 r)
        | cons b rest => exact ⟨b, rest, rfl⟩
      rw [hsp, hbr] at hres
      simp only [parseL] at hres
      rw [← hbr] at hres
      obtain ⟨hw', hwords⟩ := trace_words hL a (by omega) []
      have hwl := wordsOf_len a
      have hwm : ∀ w ∈ wordsOf a, w.length ≤ 281474976710656 := fun w h => by have := wordsOf_mem h; omega
      have hnext := ih r.length (by omega) r rfl (n + 1)
      by_cases n1 : n = 1
      · subst n1
        have := hc1 rfl
        subst this
        rw [if_pos rfl] at hres
        obtain ⟨h2, hcall, hps2⟩ := parser_names hL p en (wordsOf a) (.list true (rows.map eRow)) false h ⟨C, hpn, hC⟩
        by_cases he : namesErr (wordsOf a) = 0
        · rw [if_pos he] at hres
          have hwl2 : (wordsOf a).length ≤ 384 := by
            unfold namesErr at he
            split at he
            · simp at he
            · omega
          simp [hcut, hwords, hcall, he]
          refine hnext _ rows h2 _ _ _ _ _ _ (by omega) (by omega) (by omega) (by simpa using hwl2) ?_ hrl (hps2 he) hres
          intro d hd
          simp at hd
          obtain ⟨w, _, rfl⟩ := hd
          show I64 0
          exact ⟨by decide, by decide⟩
        · rw [if_neg he] at hres
          subst hres
          simp [hcut, hwords, hcall, he, endP, hz]
      · rw [if_neg n1] at hres
        by_cases n2 : n = 2
        · subst n2
          rw [if_pos rfl] at hres
          obtain ⟨h2, hcall, hps2⟩ := parser_types hL p en hen (wordsOf a) cols hcl (.list true (rows.map eRow)) false h ⟨C, hpn, hC⟩
          by_cases he : typesErr en (wordsOf a) cols = 0
          · rw [if_pos he] at hres
            simp [hcut, hwords, hcall, he]
            exact hnext _ rows h2 _ _ _ _ _ _ (by omega) (by omega) (by omega) (by simpa using hcl) (typed_I64 hen _ hct _) hrl (hps2 he) hres
          · rw [if_neg he] at hres
            subst hres
            simp [hcut, hwords, hcall, he, endP, hz]
        · rw [if_neg n2] at hres
          have n1' : ¬ (n : Int) = 1 := by omega
          have n2' : ¬ (n : Int) = 2 := by omega
          obtain ⟨h2, hcall, hps2⟩ := parser_row hL p en hen (wordsOf a) hwm cols hct hcl rows hrl false h ⟨C, hpn, hC⟩
          by_cases he : lineErr en cols rows (wordsOf a) = 0
          · rw [if_pos he] at hres
            have hrl2 : rows.length + 1 ≤ 4096 := by
              unfold lineErr at he
              split at he
              · simp at he
              · omega
            simp [hcut, hwords, n1, n2, n1', n2', hcall, he, hw]
            exact hnext cols _ h2 _ _ _ _ _ _ (by omega) (by omega) (by omega) hcl hct (by simpa using hrl2) (hps2 he) hres
          · rw [if_neg he] at hres
            subst hres
            simp [hcut, hwords, n1, n2, n1', n2', hcall, he, endP, hz]
theorem trace_parse (en : List Enum) (hen : EOK en) (s : Str) (hs : s.length ≤ 2147482000) (o : Bool) (h : List PObj) :
    ∃ h', callL L 8 [.list o (en.map eEnum), .str s] h = some (.tuple [eTrace (parse en s).1, .int .i64 (parse en s).2.1, .int .i64 (parse en s).2.2], h') := by
  suffices H : ∃ r, callL L 8 [.list o (en.map eEnum), .str s] h = some r ∧ r.1 = .tuple [eTrace (parse en s).1, .int .i64 (parse en s).2.1, .int .i64 (parse en s).2.2] by
    obtain ⟨⟨v, h'⟩, h1, h2⟩ := H
    exact ⟨h', by rw [h1]; simp at h2; rw [h2]⟩
  refine callL_wpP (hL 8 _ rfl) rfl ?_
  have go := fun x7 x8 x9 x10 x11 x13 => parse_loop hL en hen h.length (.list false (en.map eEnum)) (parse en s) s.length s rfl 1 [] [] (h ++ [.cells [.list false (en.map eEnum), .list true [], .list true []]]) x7 x8 x9 x10 x11 x13 (by omega) (by omega) (fun _ => rfl) (by simp) (by simp) (by simp) ⟨.list true [], by simp, .inl ⟨rfl, rfl⟩⟩ rfl
  generalize parse en s = res at go ⊢
  simp [f_trace_Parse]
  exact go _ _ _ _ _ _
end
end PI.Tr
set_option maxRecDepth 100000
set_option linter.unusedSimpArgs false
set_option linter.unusedVariables false
namespace PI.Tr
open Go (IntKind BinOp UnOp)
def lineText (l : List Str) : Str := Go.Lib.join l [32] ++ [10]
def typeNames (en : List Enum) (cols : List Decl) : List Str := cols.map fun d => (tyName en d.type).getD []
def rowWords (en : List Enum) (cols : List Decl) (r : Row) (n : Nat) : List Str := (List.range n).map fun i => cellWord en (cols.getD i default).type (r.getD i default)
theorem rowWords_succ (en : List Enum) (cols : List Decl) (r : Row) (n : Nat) : rowWords en cols r (n + 1) = rowWords en cols r n ++ [cellWord en (cols.getD n default).type (r.getD n default)] := by simp [rowWords, List.range_succ]
@[simp] theorem rowWords_len (en : List Enum) (cols : List Decl) (r : Row) (n : Nat) : (rowWords en cols r n).length = n := by simp [rowWords]
theorem typeNames_succ (en : List Enum) {l : List Decl} {i : Nat} (h : i < l.length) : typeNames en (l.take (i + 1)) = typeNames en (l.take i) ++ [(tyName en l[i].type).getD []] := by rw [take_succ' h]; simp only [typeNames, List.map_append, List.map_cons, List.map_nil]
@[simp] theorem typeNames_len (en : List Enum) (l : List Decl) : (typeNames en l).length = l.length := by simp [typeNames]
@[simp] theorem names_len (l : List Decl) : (names l).length = l.length := by simp [names]
def bodyText (en : List Enum) (t : Trace) : Str :=
  lineText (names t.cols) ++ lineText (typeNames en t.cols) ++ (t.rows.map fun r => lineText (rowWords en t.cols r r.length)).flatten
def textOf (en : List Enum) (t : Trace) : Str × Int := if checkErr en t = 0 then (bodyText en t, 0) else ([], checkErr en t)
theorem strsOf_map (l : List Str) : strsOf (l.map PV.str) = some l := by induction l <;> simp_all [strsOf]
section
variable {L : Nat → Option PFunc} (hL : ∀ k f, Lc k = some f → L k = some f)
include hL
theorem strings_join (l : List Str) (sep : Str) (o : Bool) (h : List PObj) (h1 : l.length ≤ 140737488355328) (h2 : (Go.Lib.join l sep).length ≤ 140737488355328) : callL L 35 [.list o (l.map .str), .str sep] h = some (.str (Go.Lib.join l sep), h) := by
  rw [callL_prim (hL 35 _ rfl) rfl rfl]
  simp [pJoin, strsOf_map, h1, h2]
theorem write_string (n : Nat) (bs s : Str) (h : List PObj) (hn : h[n]? = some (.bld bs)) (hb : bs.length + s.length ≤ 140737488355328) : callL L 34 [.ptr n 0, .str s] h = some (.tuple [.int .i64 s.length, .nilIface], h.set n (.bld (bs ++ s))) := by
  rw [callL_prim (hL 34 _ rfl) rfl rfl]
  simp [pWriteString, hn, hb]
theorem b_string (n : Nat) (bs : Str) (h : List PObj) (hn : h[n]? = some (.bld bs)) : callL L 23 [.ptr n 0] h = some (.str bs, h.set n .gone) := by
  rw [callL_prim (hL 23 _ rfl) rfl rfl]
  simp [pBString, hn]
theorem text_line (l : List Str) (n : Nat) (bs : Str) (o : Bool) (h : List PObj) (hn : h[n]? = some (.bld bs)) (h1 : l.length ≤ 140737488355328) (hb : bs.length + (lineText l).length ≤ 140737488355328) :
    callL L 21 [.list o (l.map .str), .ptr n 0] h = some (.tuple [], h.set n (.bld (bs ++ lineText l))) := by
  have hj : (Go.Lib.join l [32]).length + 1 = (lineText l).length := by simp [lineText]
  have hc := strings_join hL l [32] false [] h1 (by omega)
  have hw := write_string hL n bs (lineText l) h hn (by omega)
  have hj2 : (Go.Lib.join l [32]).length ≤ 4611686018427387903 := by omega
  refine callL_wp (hL 21 _ rfl) rfl ?_
  have he : Go.Lib.join l [32] ++ [10] = lineText l := rfl
  simp [f_trace_Text_1, hc, he, hw, hj2]
theorem text_row (en : List Enum) (cols : List Decl) (hok : ColsOK cols) (row : Row) (hlen : row.length = cols.length) (hl2 : row.length ≤ 2147483647) (hcell : ∀ c ∈ row, I64 c.v) (R : PV) (g : Nat) (h : List PObj) (x5 x6 x7 x8 x9 x10 x11 x14 x15 x16 x17 x18 x19 x20 x21 p1 : PV) {Q : PExit → St → Prop}
    (h0 : ∀ y14 y15 y24 g', Q (.exit 4) ⟨[.list false (en.map eEnum), p1, .loc 0 [.list false (cols.map eDecl), R], .str [], .int .i64 0, x5, x6, x7, x8, x9, x10, x11, .list false (row.map eCell), .list true ((rowWords en cols row row.length).map .str), y14, y15, x16, x17, x18, x19, x20, x21, .list false (row.map eCell), .int .i64 row.length, y24], [], g', h⟩) :
    wpL L f_trace_Text_l1 ⟨[.list false (en.map eEnum), p1, .loc 0 [.list false (cols.map eDecl), R], .str [], .int .i64 0, x5, x6, x7, x8, x9, x10, x11, .list false (row.map eCell), .list true [], x14, x15, x16, x17, x18, x19, x20, x21, .list false (row.map eCell), .int .i64 row.length, .int .i64 0], [], g, h⟩ Q := by
  refine loop_updG row.length (fun _ => true) (fun i (x : (PV × PV) × Nat) => [(13, .list true ((rowWords en cols row i).map .str)), (14, x.1.1), (15, x.1.2), (24, .int .i64 i)]) (fun _ x => x.2) (fun _ _ => h) ((x14, x15), g) ?_ ?_ ?_ rfl rfl rfl
  · intro i hi _ x ih
    have hw := wrap_succ i (by omega)
    have hi' : i < cols.length := by omega
    have hb : i ≤ 2147483647 := by omega
    have hc := trace_word hL en cols[i].type row[i] (hok.at hi') (hcell _ (List.getElem_mem hi)) false []
    have hs := rowWords_succ en cols row i
    simp only [List.getD, List.getElem?_eq_getElem hi, List.getElem?_eq_getElem hi', Option.getD_some] at hs
    simp [hi, hi', hc, hw, hb]
    simpa [hs] using ih ((_, _), _)
  · intro i hi hz; simp at hz
  · intro _ x
    simp
    exact h0 _ _ _ _
theorem trace_text (en : List Enum) (t : Trace) (hok : TrOK t) (hb : (bodyText en t).length ≤ 140737488355328) (o : Bool) (h : List PObj) : ∃ h', callL L 6 [.list o (en.map eEnum), eTrace t] h = some (.tuple [.str (textOf en t).1, .int .i64 (textOf en t).2], h') := by
  suffices H : ∃ r, callL L 6 [.list o (en.map eEnum), eTrace t] h = some r ∧ r.1 = .tuple [.str (textOf en t).1, .int .i64 (textOf en t).2] by
    obtain ⟨⟨v, h'⟩, h1, h2⟩ := H
    exact ⟨h', by rw [h1]; simp at h2; rw [h2]⟩
  refine callL_wpP (hL 6 _ rfl) rfl ?_
  obtain ⟨h', hck⟩ := trace_check hL en t hok false []
  by_cases hc : checkErr en t = 0
  · have htx : textOf en t = (bodyText en t, 0) := if_pos hc
    rw [htx]
    have hcl : t.cols.length ≤ 384 ∧ t.rows.length ≤ 4096 ∧ ∀ r ∈ t.rows, r.length = t.cols.length := by
      unfold checkErr at hc
      split at hc
      · simp at hc
      · rename_i h1
        split at hc
        · rename_i h2; exact absurd hc h2
        · refine ⟨by omega, by omega, ?_⟩
          intro r hr
          obtain ⟨k, hk, rfl⟩ := List.mem_iff_getElem.1 hr
          have := firstErr_zero hc k hk
          simp only [List.getD, List.getElem?_eq_getElem hk, Option.getD_some] at this
          unfold rowErr at this
          split at this
          · simp at this
          · rename_i h3; simpa using h3
    obtain ⟨hc1, hc2, hc3⟩ := hcl
    simp [f_trace_Text, hck, hc]
    refine loop_updG t.cols.length (fun _ => true) (fun i (x : (PV × PV) × Nat) => [(6, .list true ((names (t.cols.take i)).map .str)), (7, .list true ((typeNames en (t.cols.take i)).map .str)), (8, x.1.1), (9, x.1.2), (18, .int .i64 i)]) (fun _ x => x.2) (fun _ _ => h) ((.dead, .dead), 1) ?_ ?_ ?_ rfl rfl rfl
    · intro i hi _ x ih
      have hw := wrap_succ i (by omega)
      have hn := value_name hL en t.cols[i].type (hok.cols.at hi) false []
      have hb : i ≤ 2147483647 := by omega
      have hmin : min i t.cols.length = i := by omega
      have hs1 := names_succ hi
      have hs2 := typeNames_succ en hi
      simp [hi, hn, hw, hb, hmin]
      simpa [hs1, hs2] using ih ((_, _), _)
    · intro i hi hz; simp at hz
    · intro _ x
      have hline : ∀ (l : List Str) (bs : Str), l.length ≤ 140737488355328 → bs.length + (lineText l).length ≤ 140737488355328 → callL L 21 [.list false (l.map .str), .ptr h.length 0] (h ++ [.bld bs]) = some (.tuple [], h ++ [.bld (bs ++ lineText l)]) := by
        intro l bs h1 h2
        have := text_line hL l h.length bs false (h ++ [PObj.bld bs]) (by simp) h1 h2
        rw [this]; simp
      unfold bodyText at hb
      simp only [List.length_append] at hb
      have hl1 := hline (names t.cols) [] (by simp; omega) (by simp; omega)
      have hl2 := hline (typeNames en t.cols) (lineText (names t.cols)) (by simp; omega) (by omega)
      simp only [List.nil_append] at hl1
      obtain ⟨lns, hlns⟩ : ∃ lns, lns = t.rows.map fun r => lineText (rowWords en t.cols r r.length) := ⟨_, rfl⟩
      have hbt : bodyText en t = lineText (names t.cols) ++ lineText (typeNames en t.cols) ++ lns.flatten := by rw [hlns]; rfl
      rw [← hlns] at hb
      have hll : lns.length = t.rows.length := by rw [hlns]; simp
      have hlr : ∀ r (hr : r < t.rows.length), lns[r]? = some (lineText (rowWords en t.cols t.rows[r] t.rows[r].length)) := by
        intro r hr; rw [hlns]; simp [hr]
      have hpre : ∀ k, (lns.take k).flatten.length ≤ lns.flatten.length := by
        intro k
        conv => rhs; rw [← List.take_append_drop k lns]
        simp only [List.flatten_append, List.length_append]
        omega
      generalize hX : lineText (names t.cols) ++ lineText (typeNames en t.cols) = X at *
      have hXl : X.length = (lineText (names t.cols)).length + (lineText (typeNames en t.cols)).length := by rw [← hX]; simp
      simp [hl1, hl2, hX]
      refine loop_updG t.rows.length (fun _ => true) (fun r (x : (PV × PV × PV × PV) × (PV × PV × PV) × Nat) => [(12, x.1.1), (13, x.1.2.1), (14, x.1.2.2.1), (15, x.1.2.2.2), (21, .int .i64 r), (22, x.2.1.1), (23, x.2.1.2.1), (24, x.2.1.2.2)]) (fun _ x => x.2.2) (fun r _ => h ++ [.bld (X ++ (lns.take r).flatten)]) ((.dead, .dead, .dead, .dead), (.dead, .dead, .dead), x.2) ?_ ?_ ?_ rfl rfl (by simp)
      · intro r hr _ x ih
        have hw := wrap_succ r (by omega)
        have hr3 := hc3 _ (List.getElem_mem hr)
        have hlr' := hlr r hr
        have hts : lns.take (r + 1) = lns.take r ++ [lineText (rowWords en t.cols t.rows[r] t.rows[r].length)] := by
          rw [take_succ' (by omega)]
          rw [List.getElem?_eq_getElem (by omega)] at hlr'
          simp at hlr'; rw [hlr']
        simp [hr, eRow]
        refine text_row hL en t.cols hok.cols t.rows[r] hr3 (by omega) (hok.cell _ (List.getElem_mem hr)) _ _ _ _ _ _ _ _ _ _ _ _ _ _ _ _ _ _ _ ?_
        intro y14 y15 y24 g'
        have hp := hpre (r + 1)
        rw [hts] at hp
        simp only [List.flatten_append, List.length_append, List.flatten_cons, List.flatten_nil, List.append_nil] at hp
        have hl3 := hline (rowWords en t.cols t.rows[r] t.rows[r].length) (X ++ (lns.take r).flatten) (by simp; omega) (by simp only [List.length_append]; omega)
        simp [-List.append_assoc, hl3, hw]
        have := ih ((PV.list false (t.rows[r].map eCell), PV.list true ((rowWords en t.cols t.rows[r] t.rows[r].length).map .str), y14, y15), (PV.list false (t.rows[r].map eCell), .int .i64 t.rows[r].length, y24), g')
        rw [hts] at this
        simpa using this
      · intro i hi hz; simp at hz
      · intro _ x
        have hst' := b_string hL h.length (X ++ lns.flatten) (h ++ [PObj.bld (X ++ lns.flatten)]) (by simp)
        have htk : lns.take t.rows.length = lns := by rw [← hll]; simp
        rw [hbt]
        simp [hst', endP, htk]
  · have htx : textOf en t = ([], checkErr en t) := if_neg hc
    rw [htx]
    generalize checkErr en t = e at *
    simp [f_trace_Text, hck, hc, endP]
end
end PI.Tr
set_option maxRecDepth 100000
set_option linter.unusedSimpArgs false
set_option linter.unusedVariables false
namespace PI.Tr
open Go (IntKind BinOp UnOp)
def pre (cs : List (List Cell)) (k c : Nat) : List Int := (cs.take c).map fun col => (col.getD k default).v
end PI.Tr
set_option maxRecDepth 100000
set_option linter.unusedSimpArgs false
set_option linter.unusedVariables false
namespace PI.Tr
open Go (IntKind BinOp UnOp)
end PI.Tr
set_option maxRecDepth 100000
set_option linter.unusedSimpArgs false
set_option linter.unusedVariables false
namespace PI.Tr
open Go (IntKind BinOp UnOp)
end PI.Tr
set_option maxRecDepth 100000
set_option linter.unusedSimpArgs false
set_option linter.unusedVariables false
namespace PI.Tr
open Go (IntKind BinOp UnOp)
structure Lens (t : Trace) : Prop where
  cols : t.cols.length ≤ 140737488355328
  rows : t.rows.length ≤ 140737488355328
  clock : ∀ d ∈ t.cols, d.clock.length ≤ 140737488355328
  row : ∀ r ∈ t.rows, r.length ≤ 140737488355328
end PI.Tr
set_option maxRecDepth 100000
set_option linter.unusedSimpArgs false
set_option linter.unusedVariables false
namespace PI.Tr
open Go (IntKind BinOp UnOp)
end PI.Tr
