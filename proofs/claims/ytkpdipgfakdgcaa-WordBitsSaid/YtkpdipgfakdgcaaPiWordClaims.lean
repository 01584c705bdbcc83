/-
  The six statements on words hold of the translated program: whatever the input, the law returns true and leaves its arguments as they were. Unconditional; proved by way of a pure interpreter that is shown to be sound for the machine.
-/
import Derived.Test.YtkpdipgfakdgcaaRows
import Derived.Test.YtkpdipgfakdgcaaPiWordSeat
import Derived.Test.YtkpdipgfakdgcaaPiWordLaws2
import Derived.Test.YtkpdipgfakdgcaaPiClose
import Derived.WalkKit
import Derived.ProofKit
import Derived.OpenShut
set_option maxRecDepth 100000
namespace Go.Proofs.Ytkpdipgfakdgcaa.Pi
open Go.ChangeShapes Go.WideShapes Go.ChangeAt Go.RowKit PI

theorem own : ownKnob Try.prog.godebug = none := by kernel_rfl

def D : Nat → TyD
  | 0 => .bool
  | 1 => .int .i64
  | _ => .slice 0
def tm : Nat → TypeId
  | 0 => 4
  | 1 => 3
  | _ => 22
theorem matchAll : (List.range 3).all (fun i => matchT Try.prog D tm 3 i) = true := by kernel_rfl
theorem matches' : ∀ i, i < 3 → matchT Try.prog D tm 3 i = true := by
  intro i hi
  exact List.all_eq_true.1 matchAll i (by simpa using hi)
theorem laid : laidOutB Try.prog = true := by kernel_rfl
theorem typesOk : (List.range 3).all (fun i => Try.prog.readableRec (tm i) && decide (tm i < Try.prog.types.size)) = true := by kernel_rfl
theorem types' (i : Nat) (hi : i < 3) : i < 3 ∧ Try.prog.readableRec (tm i) = true ∧ tm i < Try.prog.types.size := by
  have := List.all_eq_true.1 typesOk i (by simpa using hi)
  simp only [Bool.and_eq_true, decide_eq_true_eq] at this
  exact ⟨hi, this⟩

theorem sh_int {p : PV} (h : Sh D 1 p) : ∃ n, p = .int .i64 n ∧ PI.Word.I64 n := by
  obtain ⟨n, rfl, h1, h2⟩ := Sh.inv_int (D := D) (k := .i64) rfl h
  exact ⟨n, rfl, by simpa [IntKind.min, IntKind.signed, IntKind.bits] using h1, by simpa [IntKind.max, IntKind.signed, IntKind.bits] using h2⟩
theorem bools : ∀ es : List PV, (∀ x ∈ es, Sh D 0 x) → ∃ bs : List Bool, es = bs.map .bool
  | [], _ => ⟨[], rfl⟩
  | x :: xs, h => by
    obtain ⟨b, rfl⟩ := Sh.inv_bool (D := D) rfl (h x (List.mem_cons_self ..))
    obtain ⟨bs, rfl⟩ := bools xs (fun y hy => h y (List.mem_cons_of_mem _ hy))
    exact ⟨b :: bs, rfl⟩
theorem sh_bools {p : PV} (h : Sh D 2 p) : ∃ bs : List Bool, p = .list false (bs.map .bool) ∧ bs.length ≤ 9223372036854775807 := by
  obtain ⟨es, rfl, hl, hs⟩ := Sh.inv_slice (D := D) (e := 0) rfl h
  obtain ⟨bs, rfl⟩ := bools es hs
  exact ⟨bs, rfl, by simpa using hl⟩

theorem one {pvs : List PV} (h : ShAll D [1] pvs) : ∃ n, pvs = [.int .i64 n] ∧ PI.Word.I64 n := by
  match pvs, h with
  | [p], h =>
    obtain ⟨n, rfl, hn⟩ := sh_int h.1
    exact ⟨n, rfl, hn⟩
theorem two {pvs : List PV} (h : ShAll D [1, 1] pvs) : ∃ a b, pvs = [.int .i64 a, .int .i64 b] ∧ PI.Word.I64 a ∧ PI.Word.I64 b := by
  match pvs, h with
  | [p, q], h =>
    obtain ⟨a, rfl, ha⟩ := sh_int h.1
    obtain ⟨b, rfl, hb⟩ := sh_int h.2.1
    exact ⟨a, b, rfl, ha, hb⟩
theorem listInt {pvs : List PV} (h : ShAll D [2, 1] pvs) : ∃ (bs : List Bool) (n : Int), pvs = [.list false (bs.map .bool), .int .i64 n] ∧ bs.length ≤ 9223372036854775807 ∧ PI.Word.I64 n := by
  match pvs, h with
  | [p, q], h =>
    obtain ⟨bs, rfl, hb⟩ := sh_bools h.1
    obtain ⟨n, rfl, hn⟩ := sh_int h.2.1
    exact ⟨bs, n, rfl, hb, hn⟩

theorem runWordBits (pvs : List PV) (h : ShAll D [2, 1] pvs) : ∃ m h', call PI.Word.L m 0 pvs [] = some (.bool true, h') := by
  have : callL PI.Word.L 0 pvs [] = some (.bool true, []) := by obtain ⟨bs, n, rfl, hb, hn⟩ := listInt h; exact PI.Word.lBits bs false n hb hn
  obtain ⟨m, hm⟩ := callL_iff.1 this
  exact ⟨m, [], hm⟩
theorem idxWordBits : ∀ i ∈ ([2, 1] : List Nat), i < 3 ∧ Try.prog.readableRec (tm i) = true ∧ tm i < Try.prog.types.size := fun i hi => types' i (by simp at hi; omega)
theorem liftedWordBits (os : Os) (started : os.Started) (H : Type) (enc : TypeId × Value → H) :
    ReturnsInHanded {} Try.checked os 3 .any (Rows.wordBitsSpec.pre6 enc Try.prog Try.f3 Rows.wordBitsRow.domain false) (Rows.wordBitsSpec.post enc Try.prog Try.f3 false true false false) := by
  refine returnsInHanded_of_change (C := Try.checked) own started (by kernel_rfl) Try.func3
    (ChangeSpec.witness6 (enc := enc) (C := Try.checked) false ⟨#[], #[.slice none 0 0, .int .i64 0], []⟩ 8 (by kernel_rfl) (by kernel_rfl) (by kernel_rfl) (by kernel_rfl)) ?_
  intro W base args ds gs before hval hW _ _
  exact pi_contract (base' := base) (N := N) (D := D) (tm := tm) (n := 3) (k := 0) (idxs := [2, 1]) (tb := 4) envOk rfl mixed libOk matches' laid (by kernel_rfl) idxWordBits rfl Try.underlying4 (by kernel_rfl)
    (fun ds hl => by match ds, hl with | [_, _], _ => rfl) hval hW (fun pvs h _ => runWordBits pvs h)

theorem wordBits_holds : Rows.WordBitsSaid :=
  OpenClaim.holds_of_wide 3 Try.f3 rfl rfl rfl rfl rfl rfl rfl ⟨rfl, rfl, rfl, rfl, rfl⟩ rfl rfl rfl rfl rfl (by kernel_rfl) Try.func3 (by kernel_rfl)
    (of_decide_eq_true (by kernel_rfl)) (by unfold Func.isWrapper; first | (rw [if_pos (by decide +kernel)]; kernel_rfl) | (rw [if_neg (by decide +kernel)]; exact ⟨rfl, rfl⟩))
    (fun os started H enc _ => liftedWordBits os started H enc)

theorem runWordDivides (pvs : List PV) (h : ShAll D [1, 1] pvs) : ∃ m h', call PI.Word.L m 1 pvs [] = some (.bool true, h') := by
  have : callL PI.Word.L 1 pvs [] = some (.bool true, []) := by obtain ⟨a, b, rfl, ha, hb⟩ := two h; exact PI.Word.lDivides a b ha hb
  obtain ⟨m, hm⟩ := callL_iff.1 this
  exact ⟨m, [], hm⟩
theorem idxWordDivides : ∀ i ∈ ([1, 1] : List Nat), i < 3 ∧ Try.prog.readableRec (tm i) = true ∧ tm i < Try.prog.types.size := fun i hi => types' i (by simp at hi; omega)
theorem liftedWordDivides (os : Os) (started : os.Started) (H : Type) (enc : TypeId × Value → H) :
    ReturnsInHanded {} Try.checked os 4 .any (Rows.wordDividesSpec.pre6 enc Try.prog Try.f4 Rows.wordDividesRow.domain false) (Rows.wordDividesSpec.post enc Try.prog Try.f4 false true false false) := by
  refine returnsInHanded_of_change (C := Try.checked) own started (by kernel_rfl) Try.func4
    (ChangeSpec.witness6 (enc := enc) (C := Try.checked) false ⟨#[], #[.int .i64 0, .int .i64 0], []⟩ 8 (by kernel_rfl) (by kernel_rfl) (by kernel_rfl) (by kernel_rfl)) ?_
  intro W base args ds gs before hval hW _ _
  exact pi_contract (base' := base) (N := N) (D := D) (tm := tm) (n := 3) (k := 1) (idxs := [1, 1]) (tb := 4) envOk rfl mixed libOk matches' laid (by kernel_rfl) idxWordDivides rfl Try.underlying4 (by kernel_rfl)
    (fun ds hl => by match ds, hl with | [_, _], _ => rfl) hval hW (fun pvs h _ => runWordDivides pvs h)

theorem wordDivides_holds : Rows.WordDividesSaid :=
  OpenClaim.holds_of_wide 4 Try.f4 rfl rfl rfl rfl rfl rfl rfl ⟨rfl, rfl, rfl, rfl, rfl⟩ rfl rfl rfl rfl rfl (by kernel_rfl) Try.func4 (by kernel_rfl)
    (of_decide_eq_true (by kernel_rfl)) (by unfold Func.isWrapper; first | (rw [if_pos (by decide +kernel)]; kernel_rfl) | (rw [if_neg (by decide +kernel)]; exact ⟨rfl, rfl⟩))
    (fun os started H enc _ => liftedWordDivides os started H enc)

theorem runWordOnes (pvs : List PV) (h : ShAll D [1] pvs) : ∃ m h', call PI.Word.L m 2 pvs [] = some (.bool true, h') := by
  have : callL PI.Word.L 2 pvs [] = some (.bool true, []) := by obtain ⟨a, rfl, ha⟩ := one h; exact PI.Word.lOnes a ha
  obtain ⟨m, hm⟩ := callL_iff.1 this
  exact ⟨m, [], hm⟩
theorem idxWordOnes : ∀ i ∈ ([1] : List Nat), i < 3 ∧ Try.prog.readableRec (tm i) = true ∧ tm i < Try.prog.types.size := fun i hi => types' i (by simp at hi; omega)
theorem liftedWordOnes (os : Os) (started : os.Started) (H : Type) (enc : TypeId × Value → H) :
    ReturnsInHanded {} Try.checked os 5 .any (Rows.wordOnesSpec.pre6 enc Try.prog Try.f5 Rows.wordOnesRow.domain false) (Rows.wordOnesSpec.post enc Try.prog Try.f5 false true false false) := by
  refine returnsInHanded_of_change (C := Try.checked) own started (by kernel_rfl) Try.func5
    (ChangeSpec.witness6 (enc := enc) (C := Try.checked) false ⟨#[], #[.int .i64 0], []⟩ 8 (by kernel_rfl) (by kernel_rfl) (by kernel_rfl) (by kernel_rfl)) ?_
  intro W base args ds gs before hval hW _ _
  exact pi_contract (base' := base) (N := N) (D := D) (tm := tm) (n := 3) (k := 2) (idxs := [1]) (tb := 4) envOk rfl mixed libOk matches' laid (by kernel_rfl) idxWordOnes rfl Try.underlying4 (by kernel_rfl)
    (fun ds hl => by match ds, hl with | [_], _ => rfl) hval hW (fun pvs h _ => runWordOnes pvs h)

theorem wordOnes_holds : Rows.WordOnesSaid :=
  OpenClaim.holds_of_wide 5 Try.f5 rfl rfl rfl rfl rfl rfl rfl ⟨rfl, rfl, rfl, rfl, rfl⟩ rfl rfl rfl rfl rfl (by kernel_rfl) Try.func5 (by kernel_rfl)
    (of_decide_eq_true (by kernel_rfl)) (by unfold Func.isWrapper; first | (rw [if_pos (by decide +kernel)]; kernel_rfl) | (rw [if_neg (by decide +kernel)]; exact ⟨rfl, rfl⟩))
    (fun os started H enc _ => liftedWordOnes os started H enc)

theorem runWordTwos (pvs : List PV) (h : ShAll D [1, 1] pvs) : ∃ m h', call PI.Word.L m 3 pvs [] = some (.bool true, h') := by
  have : callL PI.Word.L 3 pvs [] = some (.bool true, []) := by obtain ⟨a, b, rfl, ha, hb⟩ := two h; exact PI.Word.lTwos a b ha hb
  obtain ⟨m, hm⟩ := callL_iff.1 this
  exact ⟨m, [], hm⟩
theorem idxWordTwos : ∀ i ∈ ([1, 1] : List Nat), i < 3 ∧ Try.prog.readableRec (tm i) = true ∧ tm i < Try.prog.types.size := fun i hi => types' i (by simp at hi; omega)
theorem liftedWordTwos (os : Os) (started : os.Started) (H : Type) (enc : TypeId × Value → H) :
    ReturnsInHanded {} Try.checked os 6 .any (Rows.wordTwosSpec.pre6 enc Try.prog Try.f6 Rows.wordTwosRow.domain false) (Rows.wordTwosSpec.post enc Try.prog Try.f6 false true false false) := by
  refine returnsInHanded_of_change (C := Try.checked) own started (by kernel_rfl) Try.func6
    (ChangeSpec.witness6 (enc := enc) (C := Try.checked) false ⟨#[], #[.int .i64 0, .int .i64 0], []⟩ 8 (by kernel_rfl) (by kernel_rfl) (by kernel_rfl) (by kernel_rfl)) ?_
  intro W base args ds gs before hval hW _ _
  exact pi_contract (base' := base) (N := N) (D := D) (tm := tm) (n := 3) (k := 3) (idxs := [1, 1]) (tb := 4) envOk rfl mixed libOk matches' laid (by kernel_rfl) idxWordTwos rfl Try.underlying4 (by kernel_rfl)
    (fun ds hl => by match ds, hl with | [_, _], _ => rfl) hval hW (fun pvs h _ => runWordTwos pvs h)

theorem wordTwos_holds : Rows.WordTwosSaid :=
  OpenClaim.holds_of_wide 6 Try.f6 rfl rfl rfl rfl rfl rfl rfl ⟨rfl, rfl, rfl, rfl, rfl⟩ rfl rfl rfl rfl rfl (by kernel_rfl) Try.func6 (by kernel_rfl)
    (of_decide_eq_true (by kernel_rfl)) (by unfold Func.isWrapper; first | (rw [if_pos (by decide +kernel)]; kernel_rfl) | (rw [if_neg (by decide +kernel)]; exact ⟨rfl, rfl⟩))
    (fun os started H enc _ => liftedWordTwos os started H enc)

theorem runWordTurns (pvs : List PV) (h : ShAll D [1] pvs) : ∃ m h', call PI.Word.L m 4 pvs [] = some (.bool true, h') := by
  have : callL PI.Word.L 4 pvs [] = some (.bool true, []) := by obtain ⟨a, rfl, ha⟩ := one h; exact PI.Word.lTurns a ha
  obtain ⟨m, hm⟩ := callL_iff.1 this
  exact ⟨m, [], hm⟩
theorem idxWordTurns : ∀ i ∈ ([1] : List Nat), i < 3 ∧ Try.prog.readableRec (tm i) = true ∧ tm i < Try.prog.types.size := fun i hi => types' i (by simp at hi; omega)
theorem liftedWordTurns (os : Os) (started : os.Started) (H : Type) (enc : TypeId × Value → H) :
    ReturnsInHanded {} Try.checked os 7 .any (Rows.wordTurnsSpec.pre6 enc Try.prog Try.f7 Rows.wordTurnsRow.domain false) (Rows.wordTurnsSpec.post enc Try.prog Try.f7 false true false false) := by
  refine returnsInHanded_of_change (C := Try.checked) own started (by kernel_rfl) Try.func7
    (ChangeSpec.witness6 (enc := enc) (C := Try.checked) false ⟨#[], #[.int .i64 0], []⟩ 8 (by kernel_rfl) (by kernel_rfl) (by kernel_rfl) (by kernel_rfl)) ?_
  intro W base args ds gs before hval hW _ _
  exact pi_contract (base' := base) (N := N) (D := D) (tm := tm) (n := 3) (k := 4) (idxs := [1]) (tb := 4) envOk rfl mixed libOk matches' laid (by kernel_rfl) idxWordTurns rfl Try.underlying4 (by kernel_rfl)
    (fun ds hl => by match ds, hl with | [_], _ => rfl) hval hW (fun pvs h _ => runWordTurns pvs h)

theorem wordTurns_holds : Rows.WordTurnsSaid :=
  OpenClaim.holds_of_wide 7 Try.f7 rfl rfl rfl rfl rfl rfl rfl ⟨rfl, rfl, rfl, rfl, rfl⟩ rfl rfl rfl rfl rfl (by kernel_rfl) Try.func7 (by kernel_rfl)
    (of_decide_eq_true (by kernel_rfl)) (by unfold Func.isWrapper; first | (rw [if_pos (by decide +kernel)]; kernel_rfl) | (rw [if_neg (by decide +kernel)]; exact ⟨rfl, rfl⟩))
    (fun os started H enc _ => liftedWordTurns os started H enc)

theorem runWordCongruent (pvs : List PV) (h : ShAll D [1, 1] pvs) : ∃ m h', call PI.Word.L m 5 pvs [] = some (.bool true, h') := by
  have : callL PI.Word.L 5 pvs [] = some (.bool true, []) := by obtain ⟨a, b, rfl, _, _⟩ := two h; exact PI.Word.lCongruent a b
  obtain ⟨m, hm⟩ := callL_iff.1 this
  exact ⟨m, [], hm⟩
theorem idxWordCongruent : ∀ i ∈ ([1, 1] : List Nat), i < 3 ∧ Try.prog.readableRec (tm i) = true ∧ tm i < Try.prog.types.size := fun i hi => types' i (by simp at hi; omega)
theorem liftedWordCongruent (os : Os) (started : os.Started) (H : Type) (enc : TypeId × Value → H) :
    ReturnsInHanded {} Try.checked os 8 .any (Rows.wordCongruentSpec.pre6 enc Try.prog Try.f8 Rows.wordCongruentRow.domain false) (Rows.wordCongruentSpec.post enc Try.prog Try.f8 false true false false) := by
  refine returnsInHanded_of_change (C := Try.checked) own started (by kernel_rfl) Try.func8
    (ChangeSpec.witness6 (enc := enc) (C := Try.checked) false ⟨#[], #[.int .i64 0, .int .i64 0], []⟩ 8 (by kernel_rfl) (by kernel_rfl) (by kernel_rfl) (by kernel_rfl)) ?_
  intro W base args ds gs before hval hW _ _
  exact pi_contract (base' := base) (N := N) (D := D) (tm := tm) (n := 3) (k := 5) (idxs := [1, 1]) (tb := 4) envOk rfl mixed libOk matches' laid (by kernel_rfl) idxWordCongruent rfl Try.underlying4 (by kernel_rfl)
    (fun ds hl => by match ds, hl with | [_, _], _ => rfl) hval hW (fun pvs h _ => runWordCongruent pvs h)

theorem wordCongruent_holds : Rows.WordCongruentSaid :=
  OpenClaim.holds_of_wide 8 Try.f8 rfl rfl rfl rfl rfl rfl rfl ⟨rfl, rfl, rfl, rfl, rfl⟩ rfl rfl rfl rfl rfl (by kernel_rfl) Try.func8 (by kernel_rfl)
    (of_decide_eq_true (by kernel_rfl)) (by unfold Func.isWrapper; first | (rw [if_pos (by decide +kernel)]; kernel_rfl) | (rw [if_neg (by decide +kernel)]; exact ⟨rfl, rfl⟩))
    (fun os started H enc _ => liftedWordCongruent os started H enc)
end Go.Proofs.Ytkpdipgfakdgcaa.Pi
