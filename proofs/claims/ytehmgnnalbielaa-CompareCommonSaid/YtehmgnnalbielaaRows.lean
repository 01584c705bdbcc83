/-
  No cell of these rows narrows 'for every input' (looked for: loops, veiled, ifaces, maps, wideKeys, modest, calm, conditions, laid).
  DERIVED. THE GIVEN ROWS OF THIS SEAT. 4 by the template 'for every input the law returns true; each argument reads behind the call as it read before'; 0 by the template 'total and deterministic' (their statements: YtehmgnnalbielaaTotals.lean).
  GIVEN WITH THE SEED: the statements are not yours to turn. If you find one false, say at which input.
  Laid BY PROGRAM, IN A SANDBOX (cutbox-rows.mjs): the forced cells as the released guide's own fill.sh prints them over the translation 704c2762cae379a1… (all of the seat's roots in one cut). By AI agents, Wed Nov 11 2026. No macro, syntax, notation, axiom, sorry.
-/
import Derived.Test.YtehmgnnalbielaaChecked
import GoSem.Claim
import GoSem.ClaimJoined
import GoSem.ClaimMapViews
import Derived.JoinedTies
import Derived.KernelRfl
namespace Go.Proofs.Ytehmgnnalbielaa
/- THE CELL 'sum', in the pinned program and in every row, IS THE sha256 OF THE DUMP (.gsa) THAT YtehmgnnalbielaaProg.lean LOADS. Nothing in Lean hashes anything: it is a label: what it is worth is what the hold of that sum in a sandbox is worth. -/
noncomputable def Try.pinned : Pinned := { name := "ytehmgnnalbielaa", sum := "704c2762cae379a1d3d3a3e1c3b97583ee139a063c51b63d6f507772ae1061b4", checked := Try.checked }
namespace Rows
def none {H : Type} : Left H := { results := [], args := [] }

/-- 'synchronylaw44.CompareFirsts': WHATEVER THE INPUT: true; the input reads as it did. -/
def compareFirstsSpec : ChangeSpec := { name := "compareFirsts", fn := fun _ => fun
  | [d1, d2] => { results := [.lit (.bool true)], args := [d1, d2] }
  | _ => none }
def compareFirstsRow : OpenClaim := { program := "ytehmgnnalbielaa", sum := "704c2762cae379a1d3d3a3e1c3b97583ee139a063c51b63d6f507772ae1061b4", func := "synchrony/synchronylaw44.CompareFirsts", spec := "compareFirsts", unfollowed := true, recurses := true, apart := false }
def CompareFirstsSaid : Prop := compareFirstsRow.holds Try.pinned (OpenSpec.ofChange compareFirstsSpec)

/-- ITS FALSE NEIGHBOUR: 'it returns false'. Refute it at one input. -/
def compareFirstsWrong : ChangeSpec := { name := "compareFirsts", fn := fun _ => fun
  | [d1, d2] => { results := [.lit (.bool false)], args := [d1, d2] }
  | _ => none }
def CompareFirstsWrongFalsely : Prop := compareFirstsRow.holds Try.pinned (OpenSpec.ofChange compareFirstsWrong)

/-- 'synchronylaw44.CompareProjects': WHATEVER THE INPUT: true; the input reads as it did. -/
def compareProjectsSpec : ChangeSpec := { name := "compareProjects", fn := fun _ => fun
  | [d1, d2] => { results := [.lit (.bool true)], args := [d1, d2] }
  | _ => none }
def compareProjectsRow : OpenClaim := { program := "ytehmgnnalbielaa", sum := "704c2762cae379a1d3d3a3e1c3b97583ee139a063c51b63d6f507772ae1061b4", func := "synchrony/synchronylaw44.CompareProjects", spec := "compareProjects", unfollowed := true, recurses := true, apart := false }
def CompareProjectsSaid : Prop := compareProjectsRow.holds Try.pinned (OpenSpec.ofChange compareProjectsSpec)

/-- ITS FALSE NEIGHBOUR: 'it returns false'. Refute it at one input. -/
def compareProjectsWrong : ChangeSpec := { name := "compareProjects", fn := fun _ => fun
  | [d1, d2] => { results := [.lit (.bool false)], args := [d1, d2] }
  | _ => none }
def CompareProjectsWrongFalsely : Prop := compareProjectsRow.holds Try.pinned (OpenSpec.ofChange compareProjectsWrong)

/-- 'synchronylaw44.CompareAppends': WHATEVER THE INPUT: true; the input reads as it did. -/
def compareAppendsSpec : ChangeSpec := { name := "compareAppends", fn := fun _ => fun
  | [d1, d2] => { results := [.lit (.bool true)], args := [d1, d2] }
  | _ => none }
def compareAppendsRow : OpenClaim := { program := "ytehmgnnalbielaa", sum := "704c2762cae379a1d3d3a3e1c3b97583ee139a063c51b63d6f507772ae1061b4", func := "synchrony/synchronylaw44.CompareAppends", spec := "compareAppends", unfollowed := true, recurses := true, apart := false }
def CompareAppendsSaid : Prop := compareAppendsRow.holds Try.pinned (OpenSpec.ofChange compareAppendsSpec)

/-- ITS FALSE NEIGHBOUR: 'it returns false'. Refute it at one input. -/
def compareAppendsWrong : ChangeSpec := { name := "compareAppends", fn := fun _ => fun
  | [d1, d2] => { results := [.lit (.bool false)], args := [d1, d2] }
  | _ => none }
def CompareAppendsWrongFalsely : Prop := compareAppendsRow.holds Try.pinned (OpenSpec.ofChange compareAppendsWrong)

/-- 'synchronylaw44.CompareCommon': WHATEVER THE INPUT: true; the input reads as it did. -/
def compareCommonSpec : ChangeSpec := { name := "compareCommon", fn := fun _ => fun
  | [d1, d2] => { results := [.lit (.bool true)], args := [d1, d2] }
  | _ => none }
def compareCommonRow : OpenClaim := { program := "ytehmgnnalbielaa", sum := "704c2762cae379a1d3d3a3e1c3b97583ee139a063c51b63d6f507772ae1061b4", func := "synchrony/synchronylaw44.CompareCommon", spec := "compareCommon", unfollowed := true, recurses := true, apart := false }
def CompareCommonSaid : Prop := compareCommonRow.holds Try.pinned (OpenSpec.ofChange compareCommonSpec)

/-- ITS FALSE NEIGHBOUR: 'it returns false'. Refute it at one input. -/
def compareCommonWrong : ChangeSpec := { name := "compareCommon", fn := fun _ => fun
  | [d1, d2] => { results := [.lit (.bool false)], args := [d1, d2] }
  | _ => none }
def CompareCommonWrongFalsely : Prop := compareCommonRow.holds Try.pinned (OpenSpec.ofChange compareCommonWrong)

/- THE SECOND FORM. 'bulk': how many values and letters a reading holds, each counted each time it is reached (what is shared counts as often as it is met; a slice's spare places count too). A statement '..UptoSaid' is the law's where the arguments, and the package variables that the reading takes, are together of bulk at most 1048576: NARROWER than '..Said'. Prove '..Said' where nothing that the law and all that it calls make is longer than what came in: it says more and counts as full. Else prove '..UptoSaid'. A law counts once. -/
mutual
def uptoBulk {H : Type} : DataW H → Nat
  | .lit (.string bytes) => bytes.length + 1
  | .lit _ => 1
  | .nil => 1
  | .ptr d => uptoBulk d + 1
  | .slice elems spare => uptoBulkAll elems + uptoBulkAll spare + 1
  | .agg parts => uptoBulkAll parts + 1
  | .iface _ d => uptoBulk d + 1
  | .map entries => uptoBulkEntries entries + 1
  | .held _ => 1
def uptoBulkAll {H : Type} : List (DataW H) → Nat
  | [] => 0
  | d :: r => uptoBulk d + uptoBulkAll r
def uptoBulkEntries {H : Type} : List (Lit × DataW H) → Nat
  | [] => 0
  | x :: r => uptoBulkEntry x + uptoBulkEntries r
def uptoBulkEntry {H : Type} : Lit × DataW H → Nat
  | (.string bytes, d) => bytes.length + uptoBulk d + 1
  | (_, d) => uptoBulk d + 1
 end
def uptoSmall : (H : Type) → List (DataW H) → Bool := fun _ ds => decide (uptoBulkAll ds ≤ 1048576)
def OpenSpec.upto (s : _root_.Go.ChangeSpec) : _root_.Go.OpenSpec := { _root_.Go.OpenSpec.ofChange s with cond := some uptoSmall }

/-- 'synchronylaw44.CompareFirsts', WHERE WHAT IT READS IS OF BULK AT MOST 1048576: true; the input reads as it did. -/
def compareFirstsUptoRow : OpenClaim := { program := "ytehmgnnalbielaa", sum := "704c2762cae379a1d3d3a3e1c3b97583ee139a063c51b63d6f507772ae1061b4", func := "synchrony/synchronylaw44.CompareFirsts", spec := "compareFirsts", unfollowed := true, recurses := true, apart := false, narrowed := true }
def CompareFirstsUptoSaid : Prop := compareFirstsUptoRow.holds Try.pinned (OpenSpec.upto compareFirstsSpec)

/-- 'synchronylaw44.CompareProjects', WHERE WHAT IT READS IS OF BULK AT MOST 1048576: true; the input reads as it did. -/
def compareProjectsUptoRow : OpenClaim := { program := "ytehmgnnalbielaa", sum := "704c2762cae379a1d3d3a3e1c3b97583ee139a063c51b63d6f507772ae1061b4", func := "synchrony/synchronylaw44.CompareProjects", spec := "compareProjects", unfollowed := true, recurses := true, apart := false, narrowed := true }
def CompareProjectsUptoSaid : Prop := compareProjectsUptoRow.holds Try.pinned (OpenSpec.upto compareProjectsSpec)

/-- 'synchronylaw44.CompareAppends', WHERE WHAT IT READS IS OF BULK AT MOST 1048576: true; the input reads as it did. -/
def compareAppendsUptoRow : OpenClaim := { program := "ytehmgnnalbielaa", sum := "704c2762cae379a1d3d3a3e1c3b97583ee139a063c51b63d6f507772ae1061b4", func := "synchrony/synchronylaw44.CompareAppends", spec := "compareAppends", unfollowed := true, recurses := true, apart := false, narrowed := true }
def CompareAppendsUptoSaid : Prop := compareAppendsUptoRow.holds Try.pinned (OpenSpec.upto compareAppendsSpec)

/-- 'synchronylaw44.CompareCommon', WHERE WHAT IT READS IS OF BULK AT MOST 1048576: true; the input reads as it did. -/
def compareCommonUptoRow : OpenClaim := { program := "ytehmgnnalbielaa", sum := "704c2762cae379a1d3d3a3e1c3b97583ee139a063c51b63d6f507772ae1061b4", func := "synchrony/synchronylaw44.CompareCommon", spec := "compareCommon", unfollowed := true, recurses := true, apart := false, narrowed := true }
def CompareCommonUptoSaid : Prop := compareCommonUptoRow.holds Try.pinned (OpenSpec.upto compareCommonSpec)

end Rows
end Go.Proofs.Ytehmgnnalbielaa
