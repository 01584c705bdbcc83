/-
  What the laws' helpers come to: lines, equality, light, the chapter's examples.
-/
import Derived.Test.YtegahghjancjpaaDoorPiTrRun11
set_option maxRecDepth 100000
set_option linter.unusedSimpArgs false
set_option linter.unusedVariables false
namespace PI.Tr
open Go (IntKind BinOp UnOp)

def lightSum (t : Trace) : Nat → Nat
  | 0 => 0
  | i + 1 => lightSum t i + (t.rows.getD i []).length
def cellsSum (t : Trace) : Nat := lightSum t t.rows.length
/-- Is a trace small? -/
def light (t : Trace) : Bool := decide (t.cols.length ≤ 400 ∧ t.rows.length ≤ 4200 ∧ cellsSum t ≤ 20000)
theorem lightSum_mono (t : Trace) : ∀ (d i : Nat), lightSum t i ≤ lightSum t (i + d)
  | 0, i => Nat.le_refl _
  | d + 1, i => by have := lightSum_mono t d i; rw [← Nat.add_assoc]; simp only [lightSum]; omega

section
variable {L : Nat → Option PFunc} (hL : ∀ k f, Lc k = some f → L k = some f)
include hL

theorem ref_lines (s : Str) (hs : s.length ≤ 2147483647) (h : List PObj) : callL L 10 [.str s] h = some (.list true ((split 10 s).map .str), h) := by
  refine callL_wp (hL 10 _ rfl) rfl ?_
  have hle := frm_le 10 s s.length
  have hpl := pcs_len 10 s s.length
  have hpl2 : (pcs 10 s s.length).length ≤ 2147483647 := by omega
  rw [split_eq 10 s]
  simp [f_ref36_Lines]
  refine loop_go s.length (fun i (x : Unit) => [(2, .list true ((pcs 10 s i).map .str)), (3, .int .i64 (frm 10 s i)), (4, .int .i64 i)]) (fun _ _ => h) () ?_ ?_ rfl rfl
  · intro i hi x ih
    have hw := wrap_succ i (by omega)
    have hle' := frm_le 10 s i
    have hpl' := pcs_len 10 s i
    have hb : (pcs 10 s i).length ≤ 2147483647 := by omega
    have hil : i ≤ s.length := by omega
    by_cases hc : s[i] = 10
    · have e1 : frm 10 s (i + 1) = i + 1 := by simp only [frm, List.getElem?_eq_getElem hi, hc, if_true]
      have e2 : pcs 10 s (i + 1) = pcs 10 s i ++ [(s.take i).drop (frm 10 s i)] := by simp only [pcs, List.getElem?_eq_getElem hi, hc, if_true]
      have hc' : (s[i].toNat : Int) = 10 := by rw [hc]; rfl
      simp [hi, hc', hw, hle', hb, hil]
      have := ih ()
      rw [e1, e2] at this
      simpa using this
    · have hne : ¬ (some s[i] = some (10 : UInt8)) := by simpa using hc
      have e1 : frm 10 s (i + 1) = frm 10 s i := by simp only [frm, List.getElem?_eq_getElem hi, if_neg hne]
      have e2 : pcs 10 s (i + 1) = pcs 10 s i := by simp only [pcs, List.getElem?_eq_getElem hi, if_neg hne]
      have hc' : ¬ (s[i].toNat : Int) = 10 := by
        intro e
        apply hc
        exact UInt8.toNat_inj.1 (by simpa using (by omega : s[i].toNat = 10))
      simp [hi, hc', hw]
      have := ih ()
      rw [e1, e2] at this
      simpa using this
  · intro x
    simp [hle, hpl2]

theorem same_ints (a b : List Int) (ha : a.length ≤ 2147483647) (o o' : Bool) (h : List PObj) : callL L 19 [.list o (a.map (.int .i64)), .list o' (b.map (.int .i64))] h = some (.bool (decide (a = b)), h) := by
  refine callL_wp (hL 19 _ rfl) rfl ?_
  by_cases hl : a.length = b.length
  · have hl' : (a.length : Int) = b.length := by omega
    simp [f_ref04_Same, hl']
    refine loop_upd a.length (fun i => decide (a.getD i 0 = b.getD i 0)) (fun i (x : Unit) => [(3, .int .i64 i)]) (fun _ _ => h) () ?_ ?_ ?_ rfl rfl
    · intro i hi hz x ih
      have hw := wrap_succ i (by omega)
      have hi2 : i < b.length := by omega
      simp [List.getD, hi, hi2] at hz
      simp [hi, hi2, hz, hw]
      simpa using ih ()
    · intro i hi hz hk x
      have hi2 : i < b.length := by omega
      simp [List.getD, hi, hi2] at hz
      have hne : ¬ a = b := by rintro rfl; exact hz rfl
      simp [hi, hi2, hz, hne]
    · intro hz x
      have heq : a = b := by
        apply List.ext_getElem hl
        intro k h1 h2
        have := hz k h1
        simpa [List.getD, h1, h2] using this
      simp [heq]
  · have hl' : ¬ (a.length : Int) = b.length := by omega
    have hne : ¬ a = b := by rintro rfl; exact hl rfl
    simp [f_ref04_Same, hl', hne]

theorem same_cells (a b : List Cell) (ha : a.length ≤ 2147483647) (o o' : Bool) (h : List PObj) : callL L 15 [.list o (a.map eCell), .list o' (b.map eCell)] h = some (.bool (decide (a = b)), h) := by
  refine callL_wp (hL 15 _ rfl) rfl ?_
  by_cases hl : a.length = b.length
  · have hl' : (a.length : Int) = b.length := by omega
    simp [f_law43_cells, hl']
    refine loop_upd a.length (fun i => decide (a.getD i default = b.getD i default)) (fun i (x : Unit) => [(3, .int .i64 i)]) (fun _ _ => h) () ?_ ?_ ?_ rfl rfl
    · intro i hi hz x ih
      have hw := wrap_succ i (by omega)
      have hi2 : i < b.length := by omega
      simp [List.getD, hi, hi2] at hz
      simp [hi, hi2, hz, hw]
      simpa using ih ()
    · intro i hi hz hk x
      have hi2 : i < b.length := by omega
      simp [List.getD, hi, hi2] at hz
      have hne : ¬ a = b := by rintro rfl; exact hz rfl
      simp [hi, hi2, hz, hne]
    · intro hz x
      have heq : a = b := by
        apply List.ext_getElem hl
        intro k h1 h2
        have := hz k h1
        simpa [List.getD, h1, h2] using this
      simp [heq]
  · have hl' : ¬ (a.length : Int) = b.length := by omega
    have hne : ¬ a = b := by rintro rfl; exact hl rfl
    simp [f_law43_cells, hl', hne]

theorem law_light (t : Trace) (hrow : ∀ r ∈ t.rows, r.length ≤ 140737488355328) (hc : Len t.cols.length) (hrl : Len t.rows.length) (h : List PObj) : callL L 3 [eTrace t] h = some (.bool (light t), h) := by
  refine callL_wp (hL 3 _ rfl) rfl ?_
  unfold Len at hc hrl
  by_cases h1 : 400 < t.cols.length
  · have h1' : (400 : Int) < t.cols.length := by omega
    have : light t = false := by simp [light]; omega
    simp [f_law43_light, h1', this]
  · have h1' : ¬ (400 : Int) < t.cols.length := by omega
    by_cases h2 : 4200 < t.rows.length
    · have h2' : (4200 : Int) < t.rows.length := by omega
      have : light t = false := by simp [light]; omega
      simp [f_law43_light, h1', h2', this]
    · have h2' : ¬ (4200 : Int) < t.rows.length := by omega
      have hlg : light t = decide (cellsSum t ≤ 20000) := by
        unfold light
        congr 1
        simp only [eq_iff_iff]
        constructor
        · rintro ⟨_, _, h⟩; exact h
        · intro h; exact ⟨by omega, by omega, h⟩
      simp [f_law43_light, h1', h2']
      refine loop_upd t.rows.length (fun i => decide (lightSum t i ≤ 20000)) (fun i (x : Unit) => [(3, .int .i64 (lightSum t i)), (4, .int .i64 i)]) (fun _ _ => h) () ?_ ?_ ?_ rfl rfl
      · intro i hi hz x ih
        simp only [decide_eq_true_eq] at hz
        have hz' : (lightSum t i : Int) ≤ 20000 := by omega
        have hrl := hrow _ (List.getElem_mem hi)
        have hsucc : lightSum t (i + 1) = lightSum t i + t.rows[i].length := by simp [lightSum, List.getD, hi]
        have hw := wrap_succ i (by omega)
        have hw2 : IntKind.i64.wrap ((lightSum t i : Int) + t.rows[i].length) = ((lightSum t (i + 1) : Nat) : Int) := by rw [wrap_i64 _ (by omega) (by omega), hsucc]; omega
        simp [hi, hz', eRow, hw, hw2]
        simpa using ih ()
      · intro i hi hz hk x
        simp only [decide_eq_false_iff_not] at hz
        have hz' : ¬ (lightSum t i : Int) ≤ 20000 := by omega
        have hm := lightSum_mono t (t.rows.length - i) i
        rw [Nat.add_sub_cancel' (by omega)] at hm
        have : light t = false := by rw [hlg, decide_eq_false_iff_not]; unfold cellsSum; omega
        simp [hi, hz', this]
      · intro hz x
        have : light t = decide ((lightSum t t.rows.length : Int) ≤ 20000) := by
          rw [hlg]; unfold cellsSum; congr 1; simp only [eq_iff_iff]; omega
        simp [this]

/-! ### The chapter's examples -/

def sample : Trace := ⟨[⟨[114], 1, []⟩, ⟨[110], 2, []⟩], [[⟨1, 1⟩, ⟨1, -1⟩], [⟨0, 0⟩, ⟨2, 0⟩]]⟩

theorem law_sample (h : List PObj) : callL L 18 [] h = some (eTrace sample, h) := by
  refine callL_wp (hL 18 _ rfl) rfl ?_
  simp [f_law43_sample]
  rfl
end
end PI.Tr
