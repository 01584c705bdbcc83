/-
  What the functions of traces come to: the parser's names and types.
-/
import Derived.Test.YtegahghjancjpaaDoorPiTrRun6
set_option maxRecDepth 100000
set_option linter.unusedSimpArgs false
set_option linter.unusedVariables false
namespace PI
section
variable {L : Nat → Option PFunc} {Q : PExit → St → Prop}
/-- A loop that counts, with an invariant of its state. -/
theorem loop_inv {γ : Type} {c : PC} (n : Nat) (ok : Nat → Bool) (I : Nat → γ → Prop) (S : Nat → γ → St)
    (step : ∀ i, i < n → ok i = true → ∀ x, I i x → (∀ y, I (i + 1) y → wpL L (.loop c) (S (i + 1) y) Q) → wpL L c (S i x) (loopK L c Q))
    (fail : ∀ i, i < n → ok i = false → (∀ k, k < i → ok k = true) → ∀ x, I i x → wpL L c (S i x) (loopK L c Q))
    (last : (∀ k, k < n → ok k = true) → ∀ x, I n x → wpL L c (S n x) (loopK L c Q)) (x : γ) (h0 : I 0 x) : wpL L (.loop c) (S 0 x) Q := by
  have key : ∀ (d i : Nat), i + d = n → (∀ k, k < i → ok k = true) → ∀ x, I i x → wpL L (.loop c) (S i x) Q := by
    intro d
    induction d with
    | zero =>
      intro i hi hk x hx
      rw [wpL_loop]
      have : i = n := by omega
      subst this
      exact last hk x hx
    | succ d ih =>
      intro i hi hk x hx
      rw [wpL_loop]
      cases ho : ok i with
      | true =>
        refine step i (by omega) ho x hx (ih (i + 1) (by omega) ?_)
        intro k hk'
        by_cases e : k = i
        · rw [e]; exact ho
        · exact hk k (by omega)
      | false => exact fail i (by omega) ho hk x hx
  exact key n 0 (by omega) (fun k h => absurd h (Nat.not_lt_zero k)) x h0
end
end PI

namespace PI.Tr
open Go (IntKind BinOp UnOp)

@[simp] theorem flat_rowp (n sz k : Nat) (a : Bool) : (PV.rowp n sz a k).flat = true := rfl
@[simp] theorem cells_agg (cs : List PV) : (PV.agg cs).cells = cs := rfl

/-! ### The parser's state in the heap -/

def flat (cols : List Decl) : List PV := cols.flatMap fun d => (eDecl d).cells
@[simp] theorem flat_len (cols : List Decl) : (flat cols).length = cols.length * 3 := by
  induction cols with
  | nil => rfl
  | cons d r ih => simp only [flat, List.flatMap_cons, List.length_append] at ih ⊢; rw [ih]; simp; omega
@[simp] theorem flat_dem' (cols : List Decl) : (flat cols).map dem = flat cols := by
  induction cols with
  | nil => rfl
  | cons d r ih => simp only [flat, List.flatMap_cons, List.map_append] at ih ⊢; rw [ih]; rfl
theorem flat_snoc (cols : List Decl) (d : Decl) : flat (cols ++ [d]) = flat cols ++ (eDecl d).cells := by simp [flat]
theorem flat_rowEls : ∀ (cols : List Decl) (pre : List PV), rowEls 3 true (pre ++ flat cols) cols.length pre.length = some (cols.map eDecl)
  | [], pre => rfl
  | d :: r, pre => by
    have ih := flat_rowEls r (pre ++ (eDecl d).cells)
    have e : flat (d :: r) = (eDecl d).cells ++ flat r := rfl
    simp only [List.length_cons, rowEls, e]
    rw [show pre ++ ((eDecl d).cells ++ flat r) = pre ++ (eDecl d).cells ++ flat r by simp]
    rw [show pre.length + 3 = (pre ++ (eDecl d).cells).length by simp]
    rw [ih]
    have hl : loadFrom 3 true (pre ++ (eDecl d).cells ++ flat r) pre.length = some (eDecl d) := by
      simp [loadFrom, List.append_assoc, List.drop_append]
    rw [hl]; simp

/-- The columns that the heap holds. -/
def ColsAt (h : List PObj) (n : Nat) (C : PV) (cols : List Decl) : Prop :=
  (cols = [] ∧ C = .list true []) ∨ (∃ m, m ≠ n ∧ C = .rowp m 3 true cols.length ∧ h[m]? = some (.cells (flat cols)))

/-- The parser at its place. -/
def PS (n : Nat) (en : List Enum) (cols : List Decl) (R : PV) (h : List PObj) : Prop :=
  ∃ C, h[n]? = some (.cells [.list false (en.map eEnum), C, R]) ∧ ColsAt h n C cols

/-- A column that has a name only. -/
def nameCol (s : Str) : Decl := ⟨s, 0, []⟩

/-- The error of a word of the first line. -/
def nameErr (l : List Str) (i : Nat) : Int := if !ident (l.getD i []) then 6 else if l.getD i [] ∈ l.take i then 7 else 0
def namesErr (l : List Str) : Int := if 384 < l.length then 3 else firstErr l.length (nameErr l)

section
variable {L : Nat → Option PFunc} (hL : ∀ k f, Lc k = some f → L k = some f)
include hL

theorem parser_names (n : Nat) (en : List Enum) (l : List Str) (R : PV) (o : Bool) (h : List PObj) (hp : PS n en [] R h) :
    ∃ h', callL L 28 [.ptr n 0, .list o (l.map .str)] h = some (.int .i64 (namesErr l), h') ∧ (namesErr l = 0 → PS n en (l.map nameCol) R h') := by
  suffices H : ∃ r, callL L 28 [.ptr n 0, .list o (l.map .str)] h = some r ∧ (r.1 = .int .i64 (namesErr l) ∧ (namesErr l = 0 → PS n en (l.map nameCol) R r.2)) by
    obtain ⟨⟨v, h'⟩, h1, h2, h3⟩ := H
    exact ⟨h', by rw [h1]; simp at h2; rw [h2], h3⟩
  refine callL_wpP (hL 28 _ rfl) rfl ?_
  obtain ⟨C, hn, hC⟩ := hp
  have hnl : n < h.length := (List.getElem?_eq_some_iff.1 hn).1
  by_cases h1 : 384 < l.length
  · have h1' : (384 : Int) < l.length := by omega
    simp [f_trace_parser_names, h1, h1', endP, namesErr]
  · have h1' : ¬ (384 : Int) < l.length := by omega
    have he : namesErr l = firstErr l.length (nameErr l) := if_neg h1
    generalize namesErr l = E at he ⊢
    simp [f_trace_parser_names, h1']
    refine loop_inv l.length (fun i => decide (nameErr l i = 0)) (fun i (x : PV × List PObj) => PS n en ((l.take i).map nameCol) R x.2 ∧ x.2[h.length]? = some (.map (smap (l.take i))))
      (fun i x => ⟨[.ptr n 0, .list false (l.map .str), .int .i64 0, .map (some h.length), x.1, .list false (l.map .str), .int .i64 l.length, .int .i64 i], [], 0, x.2⟩) ?_ ?_ ?_ (.dead, h ++ [.map []]) ?_
    · intro i hi hz ⟨x4, hh⟩ ⟨⟨C, hn, hC⟩, hM⟩ ih
      have hw := wrap_succ i (by omega)
      simp only [nameErr, List.getD, List.getElem?_eq_getElem hi, Option.getD_some, decide_eq_true_eq] at hz
      have e1 : ident l[i] = true := by
        cases hx : ident l[i] with
        | true => rfl
        | false => rw [hx] at hz; simp at hz
      rw [if_neg (by simp [e1])] at hz
      have e2 : l[i] ∉ l.take i := by
        intro hx; rw [if_pos hx] at hz; simp at hz
      have hm := smap_no (i := 0) e2
      have hs : smap (l.take i) ++ [(.str l[i], .bool true)] = smap (l.take (i + 1)) := by rw [smap_snoc, take_succ' hi]
      have hnM : n ≠ h.length := by omega
      have hnM' : ¬ h.length = n := by omega
      have hnl2 : n < hh.length := (List.getElem?_eq_some_iff.1 hn).1
      have hMl2 : h.length < hh.length := (List.getElem?_eq_some_iff.1 hM).1
      rcases hC with ⟨hc, rfl⟩ | ⟨m, hmn, rfl, hm2⟩
      · have hq : ∀ (X : PObj) (cs : List PV) (Y : PObj), ((hh.set h.length X).set n (.cells cs) ++ [Y])[n]? = some (.cells cs) := by
          intro X cs Y
          rw [List.getElem?_append_left (by simpa using hnl2), List.getElem?_set_self (by simpa using hnl2)]
        simp [hi, lex_ident hL, e1, hM, hm, hs, hn, hnM, hnM', hw, hq, List.getElem?_set]
        have hi0 : i = 0 := by
          have : ((l.take i).map nameCol).length = 0 := by rw [hc]; rfl
          simp at this
          rcases this with h | h
          · exact h
          · rw [h] at hi; simp at hi
        subst hi0
        have hfl : flat ((l.take 1).map nameCol) = [.str l[0], .int .i64 0, .list false []] := by
          rw [take_succ' hi]; rfl
        refine ih (_, _) ⟨⟨.rowp hh.length 3 true ((l.take 1).map nameCol).length, ?_, .inr ⟨hh.length, by omega, rfl, ?_⟩⟩, ?_⟩
        · simp [hnl2, show min 1 l.length = 1 by omega]
          rw [List.getElem?_append_left (by simpa using hnl2), List.getElem?_set_self (by simpa using hnl2)]
        · rw [hfl]; simp [hnl2]
        · rw [List.getElem?_set_ne (by omega), List.getElem?_append_left (by simpa using hMl2), List.getElem?_set_ne hnM]; simp [hMl2]
      · have hmM : ¬ m = h.length := by intro e; rw [e, hM] at hm2; simp at hm2
        have hmM' : ¬ h.length = m := fun e => hmM e.symm
        have hml2 : m < hh.length := (List.getElem?_eq_some_iff.1 hm2).1
        have hmin : min i l.length = i := by omega
        have hb : i + 1 ≤ 2147483648 := by omega
        have hmn' : ¬ n = m := fun e => hmn e.symm
        have hq : ∀ X Y : PObj, ((hh.set h.length X).set m .gone ++ [Y])[n]? = some (.cells [.list false (en.map eEnum), .rowp m 3 true i, R]) := by
          intro X Y
          rw [List.getElem?_append_left (by simpa using hnl2), List.getElem?_set_ne hmn, List.getElem?_set_ne hnM']
          simpa [hmin] using hn
        simp [hi, lex_ident hL, e1, hM, hm, hs, hn, hm2, hnM, hnM', hmM, hmM', hmn, hmn', hw, hmin, hb, hq, List.getElem?_set]
        have hfl : flat ((l.take (i + 1)).map nameCol) = flat (List.take i (List.map nameCol l)) ++ [.str l[i], .int .i64 0, .list false []] := by
          rw [take_succ' hi, List.map_append, List.map_take]
          exact flat_snoc _ _
        refine ih (_, _) ⟨⟨.rowp hh.length 3 true ((l.take (i + 1)).map nameCol).length, ?_, .inr ⟨hh.length, by omega, rfl, ?_⟩⟩, ?_⟩
        · simp [hnl2, show min (i + 1) l.length = i + 1 by omega]
          rw [List.getElem?_append_left (by simpa using hnl2), List.getElem?_set_self (by simpa using hnl2)]
        · rw [hfl]; simp [hnl2]
        · rw [List.getElem?_set_ne (by omega), List.getElem?_append_left (by simpa using hMl2), List.getElem?_set_ne hmM]; simp [hMl2]
    · intro i hi hz hk ⟨x4, hh⟩ ⟨⟨C, hn, hC⟩, hM⟩
      have hf := firstErr_at (err := nameErr l) hi (by simpa using hz) (fun k hk' => by simpa using hk k hk')
      rw [hf] at he
      rw [he]
      simp only [nameErr, List.getD, List.getElem?_eq_getElem hi, Option.getD_some, decide_eq_false_iff_not] at hz ⊢
      by_cases e1 : ident l[i] = true
      · rw [if_neg (by simp [e1])] at hz ⊢
        by_cases e2 : l[i] ∈ l.take i
        · obtain ⟨k, hm⟩ := smap_yes (i := 0) e2
          simp [hi, lex_ident hL, e1, e2, hM, hm, endP]
        · rw [if_neg e2] at hz; simp at hz
      · have e1' : ident l[i] = false := by simpa using e1
        simp [hi, lex_ident hL, e1', endP]
    · intro hz ⟨x4, hh⟩ ⟨hps, hM⟩
      have hf := firstErr_no (err := nameErr l) (n := l.length) (fun k hk => by simpa using hz k hk)
      rw [hf] at he
      subst he
      simp [endP]
      simpa using hps
    · refine ⟨⟨C, by rw [List.getElem?_append_left hnl]; exact hn, ?_⟩, by simp [smap]⟩
      rcases hC with hC | ⟨m, h2, h3, h4⟩
      · exact .inl hC
      · exact .inr ⟨m, h2, h3, by rw [List.getElem?_append_left (List.getElem?_eq_some_iff.1 h4).1]; exact h4⟩
end

/-- The first columns with their types. -/
theorem some_not_none {α : Type} {o : Option α} (h : o.isSome = true) : ¬ o.isNone = true := by cases o <;> simp_all
def typed (en : List Enum) (l : List Str) (cols : List Decl) : Nat → List Decl
  | 0 => cols
  | i + 1 => (typed en l cols i).modify i fun d => ⟨d.name, (typeOf en (l.getD i [])).getD 0, d.clock⟩
@[simp] theorem typed_len (en : List Enum) (l : List Str) (cols : List Decl) (i : Nat) : (typed en l cols i).length = cols.length := by
  induction i with
  | zero => rfl
  | succ i ih => simp [typed, ih]
theorem flat_set : ∀ (cols : List Decl) (i : Nat) (t : Int), i < cols.length → (flat cols).set (i * 3 + 1) (.int .i64 t) = flat (cols.modify i fun d => ⟨d.name, t, d.clock⟩)
  | d :: r, 0, t, _ => rfl
  | d :: r, i + 1, t, h => by
    have ih := flat_set r i t (by simpa using h)
    have e : flat (d :: r) = (eDecl d).cells ++ flat r := rfl
    rw [e, show (i + 1) * 3 + 1 = (eDecl d).cells.length + (i * 3 + 1) by simp; omega, List.set_append_right _ _ (by omega), Nat.add_sub_cancel_left, ih]
    rfl
/-- The error of a word of the second line. -/
def typesErr (en : List Enum) (l : List Str) (cols : List Decl) : Int :=
  if l.length ≠ cols.length then 9 else firstErr l.length (fun i => if (typeOf en (l.getD i [])).isNone then 10 else 0)

section
variable {L : Nat → Option PFunc} (hL : ∀ k f, Lc k = some f → L k = some f)
include hL

theorem parser_types (n : Nat) (en : List Enum) (hen : EOK en) (l : List Str) (cols : List Decl) (hlen : cols.length ≤ 384) (R : PV) (o : Bool) (h : List PObj) (hp : PS n en cols R h) :
    ∃ h', callL L 29 [.ptr n 0, .list o (l.map .str)] h = some (.int .i64 (typesErr en l cols), h') ∧ (typesErr en l cols = 0 → PS n en (typed en l cols l.length) R h') := by
  suffices H : ∃ r, callL L 29 [.ptr n 0, .list o (l.map .str)] h = some r ∧ (r.1 = .int .i64 (typesErr en l cols) ∧ (typesErr en l cols = 0 → PS n en (typed en l cols l.length) R r.2)) by
    obtain ⟨⟨v, h'⟩, h1, h2, h3⟩ := H
    exact ⟨h', by rw [h1]; simp at h2; rw [h2], h3⟩
  refine callL_wpP (hL 29 _ rfl) rfl ?_
  obtain ⟨C, hn, hC⟩ := hp
  have hnl : n < h.length := (List.getElem?_eq_some_iff.1 hn).1
  have hCl : ∃ b, (C = .list b [] ∧ cols.length = 0) ∨ ∃ m, C = .rowp m 3 true cols.length := by
    rcases hC with ⟨rfl, rfl⟩ | ⟨m, _, rfl, _⟩
    · exact ⟨true, .inl ⟨rfl, rfl⟩⟩
    · exact ⟨true, .inr ⟨m, rfl⟩⟩
  by_cases h1 : l.length = cols.length
  · have h1' : (l.length : Int) = cols.length := by omega
    have he : typesErr en l cols = firstErr l.length (fun i => if (typeOf en (l.getD i [])).isNone then 10 else 0) := if_neg (by simpa using h1)
    generalize typesErr en l cols = E at he ⊢
    have go : wpL L f_trace_parser_types_l0 ⟨[.ptr n 0, .list false (l.map .str), .int .i64 0, .dead, .dead, .dead, .dead, .list false (l.map .str), .int .i64 l.length, .int .i64 0], [], 0, h⟩ (blockK 0 (seqK L ((PC.region [⟨.v 2, .take (.c (.int .i64 0)), none⟩]).seq PC.ret) (endP [PRes.var 2] fun r => r.1 = PV.int .i64 E ∧ (E = 0 → PS n en (typed en l cols l.length) R r.2)))) := by
      unfold f_trace_parser_types_l0
      refine loop_inv l.length (fun i => (typeOf en (l.getD i [])).isSome) (fun i (x : (PV × PV × PV × PV) × List PObj) => PS n en (typed en l cols i) R x.2)
        (fun i x => ⟨[.ptr n 0, .list false (l.map .str), .int .i64 0, x.1.1, x.1.2.1, x.1.2.2.1, x.1.2.2.2, .list false (l.map .str), .int .i64 l.length, .int .i64 i], [], 0, x.2⟩) ?_ ?_ ?_ ((.dead, .dead, .dead, .dead), h) ⟨C, hn, hC⟩
      · intro i hi hz ⟨x, hh⟩ ⟨C, hn, hC⟩ ih
        have hw := wrap_succ i (by omega)
        simp only [List.getD, List.getElem?_eq_getElem hi, Option.getD_some] at hz
        have ht := value_type hL en hen l[i] false []
        have hnl2 : n < hh.length := (List.getElem?_eq_some_iff.1 hn).1
        rcases hC with ⟨hc, rfl⟩ | ⟨m, hmn, rfl, hm2⟩
        · exfalso
          have : (typed en l cols i).length = 0 := by rw [hc]; rfl
          rw [typed_len] at this
          omega
        · have hml2 : m < hh.length := (List.getElem?_eq_some_iff.1 hm2).1
          have hil : (i : Int) < cols.length := by omega
          have hil2 : i * 3 + 1 < cols.length * 3 := by omega
          have hmn' : ¬ n = m := fun e => hmn e.symm
          have hset := flat_set (typed en l cols i) i ((typeOf en l[i]).getD 0) (by simp; omega)
          simp [hi, ht, hz, hn, hm2, hw, hil, hil2, hset]
          refine ih ((_, _, _, _), _) ⟨_, ?_, .inr ⟨m, hmn, rfl, ?_⟩⟩
          · rw [List.getElem?_set_ne hmn]; simpa using hn
          · rw [List.getElem?_set_self hml2]; simp [typed, List.getD, hi]
      · intro i hi hz hk ⟨x, hh⟩ ⟨C, hn, hC⟩
        have hf := firstErr_at (err := fun i => if (typeOf en (l.getD i [])).isNone then 10 else 0) hi (by simp at hz ⊢; simp [hz]) (fun k hk' => if_neg (some_not_none (hk k hk')))
        rw [hf] at he
        simp only [List.getD, List.getElem?_eq_getElem hi, Option.getD_some] at hz he
        have ht := value_type hL en hen l[i] false []
        have hz' : typeOf en l[i] = none := by simpa using hz
        rw [hz'] at he
        simp at he
        subst he
        simp [hi, ht, hz', hn, endP]
      · intro hz ⟨x, hh⟩ hps
        have hf := firstErr_no (err := fun i => if (typeOf en (l.getD i [])).isNone then (10 : Int) else 0) (n := l.length) (fun k hk => if_neg (some_not_none (hz k hk)))
        rw [hf] at he
        subst he
        simp [endP]
        exact hps
    obtain ⟨b, ⟨rfl, h0⟩ | ⟨m, rfl⟩⟩ := hCl
    · have h0' : (l.length : Int) = 0 := by omega
      simp [f_trace_parser_types, hn, h0, h1, h0']
      simpa [h0, h1] using go
    · simp [f_trace_parser_types, hn, h1']
      simpa [h1'] using go
  · have h1' : ¬ (l.length : Int) = cols.length := by omega
    have he : typesErr en l cols = 9 := if_pos h1
    rw [he]
    obtain ⟨b, ⟨rfl, h0⟩ | ⟨m, rfl⟩⟩ := hCl
    · have hl0 : ¬ l = [] := by rintro rfl; exact h1 (by simpa using h0.symm)
      simp [f_trace_parser_types, hn, hl0, endP]
    · simp [f_trace_parser_types, hn, h1', endP]
end
end PI.Tr
