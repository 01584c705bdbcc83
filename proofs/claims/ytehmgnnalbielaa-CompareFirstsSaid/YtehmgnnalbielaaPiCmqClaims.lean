/-
  Statements on compare hold of the translated program: the law returns true and leaves its arguments as they were. Unconditional; proved by way of a pure interpreter that is shown to be sound for the machine.
-/
import Derived.Test.YtehmgnnalbielaaRows
import Derived.Test.YtehmgnnalbielaaPiCmpSeat
import Derived.Test.YtehmgnnalbielaaPiCmqRun10
import Derived.Test.YtehmgnnalbielaaPiClose
import Derived.WalkKit
import Derived.ProofKit
import Derived.OpenShut
import Derived.JoinedCond
set_option maxRecDepth 100000
set_option linter.unusedVariables false
namespace Go.Proofs.Ytehmgnnalbielaa.Pi
open Go.ChangeShapes Go.WideShapes Go.ChangeAt Go.RowKit PI PI.Cmp

theorem own : ownKnob Try.prog.godebug = none := by kernel_rfl

def D : Nat → TyD
  | 0 => .str
  | 1 => .int .i64
  | 2 => .struct [0, 1, 1]
  | 3 => .slice 2
  | 4 => .struct [0, 1, 3]
  | 5 => .slice 4
  | 6 => .struct [1, 1]
  | 7 => .slice 6
  | 8 => .slice 7
  | 9 => .struct [5, 8]
  | _ => .slice 0
def tm : Nat → TypeId
  | 0 => 9
  | 1 => 3
  | 2 => 79
  | 3 => 57
  | 4 => 59
  | 5 => 22
  | 6 => 42
  | 7 => 40
  | 8 => 23
  | 9 => 25
  | _ => 30
theorem matchAll : (List.range 11).all (fun i => matchT Try.prog D tm 11 i) = true := by kernel_rfl
theorem matches' : ∀ i, i < 11 → matchT Try.prog D tm 11 i = true := by
  intro i hi
  exact List.all_eq_true.1 matchAll i (by simpa using hi)
theorem laid : laidOutB Try.prog = true := by kernel_rfl
theorem typesOk : (List.range 11).all (fun i => Try.prog.readableRec (tm i) && decide (tm i < Try.prog.types.size)) = true := by kernel_rfl
theorem types' (i : Nat) (hi : i < 11) : i < 11 ∧ Try.prog.readableRec (tm i) = true ∧ tm i < Try.prog.types.size := by
  have := List.all_eq_true.1 typesOk i (by simpa using hi)
  simp only [Bool.and_eq_true, decide_eq_true_eq] at this
  exact ⟨hi, this⟩

/-! ### What is given, as traces -/

theorem all_map {α : Type} {f : α → PV} {G : α → Prop} {i : Nat} (hf : ∀ p, Sh D i p → ∃ x, p = f x ∧ G x) : ∀ es : List PV, (∀ x ∈ es, Sh D i x) → ∃ l : List α, es = l.map f ∧ ∀ x ∈ l, G x
  | [], _ => ⟨[], rfl, by simp⟩
  | x :: xs, h => by
    obtain ⟨y, rfl, hy⟩ := hf x (h x (List.mem_cons_self ..))
    obtain ⟨l, rfl, hl⟩ := all_map hf xs (fun y hy => h y (List.mem_cons_of_mem _ hy))
    refine ⟨y :: l, rfl, ?_⟩
    intro z hz
    rcases List.mem_cons.1 hz with rfl | hz
    · exact hy
    · exact hl z hz
theorem sh_str (p : PV) (h : Sh D 0 p) : ∃ s, p = .str s := by
  obtain ⟨s, rfl, _⟩ := Sh.inv_str (D := D) rfl h
  exact ⟨s, rfl⟩
theorem sh_int {p : PV} (h : Sh D 1 p) : ∃ n, p = .int .i64 n := by
  obtain ⟨n, rfl, _⟩ := Sh.inv_int (D := D) (k := .i64) rfl h
  exact ⟨n, rfl⟩
theorem sh_on (p : PV) (h : Sh D 2 p) : ∃ x : On, p = eOn x ∧ True := by
  obtain ⟨ps, rfl, hq⟩ := Sh.inv_struct (D := D) (fs := [0, 1, 1]) rfl h
  match ps, hq with
  | [a, b, c], ⟨ha, hb, hc, _⟩ =>
    obtain ⟨s, rfl⟩ := sh_str a ha
    obtain ⟨n, rfl⟩ := sh_int hb
    obtain ⟨m, rfl⟩ := sh_int hc
    exact ⟨⟨s, n, m⟩, rfl, trivial⟩
theorem sh_cell (p : PV) (h : Sh D 6 p) : ∃ x : Cell, p = eCell x ∧ True := by
  obtain ⟨ps, rfl, hq⟩ := Sh.inv_struct (D := D) (fs := [1, 1]) rfl h
  match ps, hq with
  | [a, b], ⟨ha, hb, _⟩ =>
    obtain ⟨n, rfl⟩ := sh_int ha
    obtain ⟨m, rfl⟩ := sh_int hb
    exact ⟨⟨n, m⟩, rfl, trivial⟩
theorem sh_row (p : PV) (h : Sh D 7 p) : ∃ x : Row, p = eRow x ∧ Len x.length := by
  obtain ⟨es, rfl, hl, hs⟩ := Sh.inv_slice (D := D) (e := 6) rfl h
  obtain ⟨l, rfl, _⟩ := all_map sh_cell es hs
  exact ⟨l, rfl, by simpa using hl⟩
theorem sh_decl (p : PV) (h : Sh D 4 p) : ∃ x : Decl, p = eDecl x ∧ Len x.clock.length := by
  obtain ⟨ps, rfl, hq⟩ := Sh.inv_struct (D := D) (fs := [0, 1, 3]) rfl h
  match ps, hq with
  | [a, b, c], ⟨ha, hb, hc, _⟩ =>
    obtain ⟨s, rfl⟩ := sh_str a ha
    obtain ⟨n, rfl⟩ := sh_int hb
    obtain ⟨es, rfl, hl, hs⟩ := Sh.inv_slice (D := D) (e := 2) rfl hc
    obtain ⟨l, rfl, _⟩ := all_map sh_on es hs
    exact ⟨⟨s, n, l⟩, rfl, by simpa using hl⟩
theorem sh_trace (p : PV) (h : Sh D 9 p) : ∃ x : Cmp.Trace, p = eTrace x ∧ TraceOk x := by
  obtain ⟨ps, rfl, hq⟩ := Sh.inv_struct (D := D) (fs := [5, 8]) rfl h
  match ps, hq with
  | [a, b], ⟨ha, hb, _⟩ =>
    obtain ⟨es, rfl, hl, hs⟩ := Sh.inv_slice (D := D) (e := 4) rfl ha
    obtain ⟨l, rfl, h1⟩ := all_map sh_decl es hs
    obtain ⟨fs, rfl, kl, ks⟩ := Sh.inv_slice (D := D) (e := 7) rfl hb
    obtain ⟨k, rfl, h2⟩ := all_map sh_row fs ks
    exact ⟨⟨l, k⟩, rfl, ⟨by simpa using hl, by simpa using kl, h1, h2⟩⟩

theorem two {pvs : List PV} (h : ShAll D [9, 9] pvs) : ∃ a b : Cmp.Trace, pvs = [eTrace a, eTrace b] ∧ TraceOk a ∧ TraceOk b := by
  match pvs, h with
  | [p, q], h =>
    obtain ⟨a, rfl, ha⟩ := sh_trace p h.1
    obtain ⟨b, rfl, hb⟩ := sh_trace q h.2.1
    exact ⟨a, b, rfl, ha, hb⟩

theorem runCompareFirsts (pvs : List PV) (h : ShAll D [9, 9] pvs) : ∃ m h', call PI.Cmp.L m 0 pvs [] = some (.bool true, h') := by
  have : callL PI.Cmp.L 0 pvs [] = some (.bool true, []) := by obtain ⟨a, b, rfl, ha, hb⟩ := two h; exact firsts a b ha hb []
  obtain ⟨m, hm⟩ := callL_iff.1 this
  exact ⟨m, [], hm⟩
theorem idxCompareFirsts : ∀ i ∈ ([9, 9] : List Nat), i < 11 ∧ Try.prog.readableRec (tm i) = true ∧ tm i < Try.prog.types.size := fun i hi => types' i (by simp at hi; omega)
theorem liftedCompareFirsts (os : Os) (started : os.Started) (H : Type) (enc : TypeId × Value → H) :
    ReturnsInHanded {} Try.checked os 3 .any (Rows.compareFirstsSpec.pre6 enc Try.prog Try.f3 Rows.compareFirstsRow.domain false) (Rows.compareFirstsSpec.post enc Try.prog Try.f3 false true false false) := by
  refine returnsInHanded_of_change (C := Try.checked) own started (by kernel_rfl) Try.func3
    (ChangeSpec.witness6 (enc := enc) (C := Try.checked) false ⟨#[], #[.agg #[.slice none 0 0, .slice none 0 0], .agg #[.slice none 0 0, .slice none 0 0]], []⟩ 8 (by kernel_rfl) (by kernel_rfl) (by kernel_rfl) (by kernel_rfl)) ?_
  intro W base args ds gs before hval hW _ _
  exact pi_contract (base' := base) (N := N) (D := D) (tm := tm) (n := 11) (k := 0) (idxs := [9, 9]) (tb := 4) envOk rfl mixed libOk matches' laid (by kernel_rfl) idxCompareFirsts rfl Try.underlying4 (by kernel_rfl)
    (fun ds hl => by match ds, hl with | [_, _], _ => rfl) hval hW (fun pvs h _ => runCompareFirsts pvs h)

theorem compareFirsts_holds : Rows.CompareFirstsSaid :=
  OpenClaim.holds_of_wide 3 Try.f3 rfl rfl rfl rfl rfl rfl rfl ⟨rfl, rfl, rfl, rfl, rfl⟩ rfl rfl rfl rfl rfl (by kernel_rfl) Try.func3 (by kernel_rfl)
    (of_decide_eq_true (by kernel_rfl)) (by unfold Func.isWrapper; first | (rw [if_pos (by decide +kernel)]; kernel_rfl) | (rw [if_neg (by decide +kernel)]; exact ⟨rfl, rfl⟩))
    (fun os started H enc _ => liftedCompareFirsts os started H enc)
end Go.Proofs.Ytehmgnnalbielaa.Pi
