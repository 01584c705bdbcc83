/-
  What awake comes to; names that are different.
-/
import Derived.Test.YtegahghjancjpaaDoorPiTrRun12
import Derived.KernelRfl
set_option maxRecDepth 100000
set_option linter.unusedSimpArgs false
set_option linter.unusedVariables false
namespace PI.Tr
open Go (IntKind BinOp UnOp)

def sample2 : Trace := ⟨[⟨[97], 2, []⟩], [[⟨1, 1⟩], [⟨1, 2⟩]]⟩
theorem sample_text : textOf [] sample = ([114, 32, 110, 10, 98, 111, 111, 108, 32, 105, 110, 116, 10, 116, 114, 117, 101, 32, 45, 49, 10, 45, 32, 63, 10], 0) := by kernel_rfl
theorem sample_body : (bodyText [] sample).length ≤ 2147483648 := by
  have : (bodyText [] sample).length = 25 := by kernel_rfl
  omega
theorem sample_col : colOf sample [110] = some [⟨1, -1⟩, ⟨2, 0⟩] := by kernel_rfl
theorem sample_p1 : parse [] [97, 10, 105, 110, 116, 10, 49, 32, 50, 10] = (noTrace, 3, 9) := by kernel_rfl
theorem sample_p2 : parse [] [97, 10] = (noTrace, 2, 4) := by kernel_rfl
theorem sample_rows : rowsOf sample2 [[97], [97]] = ([[1, 1], [2, 2]], 0) := by kernel_rfl
theorem sample_ok : TrOK sample := ⟨⟨by decide, by decide⟩, by decide, by decide, by decide⟩
theorem sample2_ok : TrOK sample2 := ⟨⟨by decide, by decide⟩, by decide, by decide, by decide⟩
theorem eok_nil : EOK [] := ⟨by decide, by simp⟩

section
variable {L : Nat → Option PFunc} (hL : ∀ k f, Lc k = some f → L k = some f)
include hL

theorem law_awake (h : List PObj) : callL L 5 [] h = some (.bool true, h) := by
  refine callL_wp (hL 5 _ rfl) rfl ?_
  have hs := law_sample hL []
  obtain ⟨h1, ht⟩ := trace_text hL [] sample sample_ok sample_body false []
  obtain ⟨h2, hp1⟩ := trace_parse hL [] eok_nil [97, 10, 105, 110, 116, 10, 49, 32, 50, 10] (by decide) false []
  obtain ⟨h3, hp2⟩ := trace_parse hL [] eok_nil [97, 10] (by decide) false []
  obtain ⟨h4, hc⟩ := trace_col hL sample sample_ok (by decide) [110] []
  obtain ⟨h5, hr⟩ := trace_rows hL sample2 sample2_ok (by decide) [[97], [97]] (by decide) false []
  have hsc := same_cells hL [⟨1, -1⟩, ⟨2, 0⟩] [⟨1, -1⟩, ⟨2, 0⟩] (by decide) false false []
  have hsi := same_ints hL [2, 2] [2, 2] (by decide) false false []
  rw [sample_text] at ht
  rw [sample_p1] at hp1
  rw [sample_p2] at hp2
  rw [sample_col] at hc
  rw [sample_rows] at hr
  have z2 : PV.agg [.int .i64 2, .int .i64 0] = eCell ⟨2, 0⟩ := rfl
  have z1 : ∀ v : Int, PV.agg [.int .i64 1, .int .i64 v] = eCell ⟨1, v⟩ := fun _ => rfl
  have he2 : PV.agg [PV.list false [PV.agg [.str [97], .int .i64 2, .list false []]], .list false [.list false [eCell ⟨1, 1⟩], .list false [eCell ⟨1, 2⟩]]] = eTrace sample2 := rfl
  simp at ht hp1 hp2 hc hr hsc hsi
  have hei : ∀ a b : Int, PV.list false [.int .i64 a, .int .i64 b] = eInts [a, b] := fun _ _ => rfl
  have hrf : refFree (PV.tuple [.list false [eInts [1, 1], eInts [2, 2]], .int .i64 0]) = true := rfl
  have hcell : ∀ l : List Int, (eInts l).cells = [eInts l] := fun _ => rfl
  have hcp : ∀ l : List Int, cp (eInts l) = some (eInts l) := fun _ => rfl
  have hdm : ∀ l : List Int, dem (eInts l) = eInts l := fun _ => rfl
  have hfr : ∀ l : List Int, refFree (eInts l) = true := fun l => by simp [eInts]
  simp [f_law43_awake, hs, ht, hp1, hp2, hc, z1, z2, he2, hr, hrf, hcell, hcp, hdm, hfr, hsc]
  simp [eInts, hsi]
end
end PI.Tr
