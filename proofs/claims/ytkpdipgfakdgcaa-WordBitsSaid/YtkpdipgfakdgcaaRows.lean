/-
  No cell of these rows narrows 'for every input' (looked for: loops, veiled, ifaces, maps, wideKeys, modest, calm, conditions, laid).
  DERIVED. THE GIVEN ROWS OF THIS SEAT. 6 by the template 'for every input the law returns true; each argument reads behind the call as it read before'; 0 by the template 'total and deterministic' (their statements: YtkpdipgfakdgcaaTotals.lean).
  GIVEN WITH THE SEED: the statements are not yours to turn. If you find one false, say at which input.
  Laid BY PROGRAM, IN A SANDBOX (cutbox-rows.mjs): the forced cells as the released guide's own fill.sh prints them over the translation 795ccc8a6eaad815… (all of the seat's roots in one cut). By AI agents, Wed Nov 11 2026. No macro, syntax, notation, axiom, sorry.
-/
import Derived.Test.YtkpdipgfakdgcaaChecked
import GoSem.Claim
import GoSem.ClaimJoined
import GoSem.ClaimMapViews
import Derived.JoinedTies
import Derived.KernelRfl
namespace Go.Proofs.Ytkpdipgfakdgcaa
/- THE CELL 'sum', in the pinned program and in every row, IS THE sha256 OF THE DUMP (.gsa) THAT YtkpdipgfakdgcaaProg.lean LOADS. Nothing in Lean hashes anything: it is a label: what it is worth is what the hold of that sum in a sandbox is worth. -/
noncomputable def Try.pinned : Pinned := { name := "ytkpdipgfakdgcaa", sum := "795ccc8a6eaad8151af9d18e355179fd72c082baf0d761ef1360615abfe2e3a9", checked := Try.checked }
namespace Rows
def none {H : Type} : Left H := { results := [], args := [] }

/-- 'synchronylaw01.WordBits': WHATEVER THE INPUT: true; the input reads as it did. -/
def wordBitsSpec : ChangeSpec := { name := "wordBits", fn := fun _ => fun
  | [d1, d2] => { results := [.lit (.bool true)], args := [d1, d2] }
  | _ => none }
def wordBitsRow : OpenClaim := { program := "ytkpdipgfakdgcaa", sum := "795ccc8a6eaad8151af9d18e355179fd72c082baf0d761ef1360615abfe2e3a9", func := "synchrony/synchronylaw01.WordBits", spec := "wordBits", apart := false }
def WordBitsSaid : Prop := wordBitsRow.holds Try.pinned (OpenSpec.ofChange wordBitsSpec)

/-- ITS FALSE NEIGHBOUR: 'it returns false'. Refute it at one input. -/
def wordBitsWrong : ChangeSpec := { name := "wordBits", fn := fun _ => fun
  | [d1, d2] => { results := [.lit (.bool false)], args := [d1, d2] }
  | _ => none }
def WordBitsWrongFalsely : Prop := wordBitsRow.holds Try.pinned (OpenSpec.ofChange wordBitsWrong)

/-- 'synchronylaw01.WordDivides': WHATEVER THE INPUT: true; the input reads as it did. -/
def wordDividesSpec : ChangeSpec := { name := "wordDivides", fn := fun _ => fun
  | [d1, d2] => { results := [.lit (.bool true)], args := [d1, d2] }
  | _ => none }
def wordDividesRow : OpenClaim := { program := "ytkpdipgfakdgcaa", sum := "795ccc8a6eaad8151af9d18e355179fd72c082baf0d761ef1360615abfe2e3a9", func := "synchrony/synchronylaw01.WordDivides", spec := "wordDivides", apart := false }
def WordDividesSaid : Prop := wordDividesRow.holds Try.pinned (OpenSpec.ofChange wordDividesSpec)

/-- ITS FALSE NEIGHBOUR: 'it returns false'. Refute it at one input. -/
def wordDividesWrong : ChangeSpec := { name := "wordDivides", fn := fun _ => fun
  | [d1, d2] => { results := [.lit (.bool false)], args := [d1, d2] }
  | _ => none }
def WordDividesWrongFalsely : Prop := wordDividesRow.holds Try.pinned (OpenSpec.ofChange wordDividesWrong)

/-- 'synchronylaw01.WordOnes': WHATEVER THE INPUT: true; the input reads as it did. -/
def wordOnesSpec : ChangeSpec := { name := "wordOnes", fn := fun _ => fun
  | [d] => { results := [.lit (.bool true)], args := [d] }
  | _ => none }
def wordOnesRow : OpenClaim := { program := "ytkpdipgfakdgcaa", sum := "795ccc8a6eaad8151af9d18e355179fd72c082baf0d761ef1360615abfe2e3a9", func := "synchrony/synchronylaw01.WordOnes", spec := "wordOnes", apart := false }
def WordOnesSaid : Prop := wordOnesRow.holds Try.pinned (OpenSpec.ofChange wordOnesSpec)

/-- ITS FALSE NEIGHBOUR: 'it returns false'. Refute it at one input. -/
def wordOnesWrong : ChangeSpec := { name := "wordOnes", fn := fun _ => fun
  | [d] => { results := [.lit (.bool false)], args := [d] }
  | _ => none }
def WordOnesWrongFalsely : Prop := wordOnesRow.holds Try.pinned (OpenSpec.ofChange wordOnesWrong)

/-- 'synchronylaw01.WordTwos': WHATEVER THE INPUT: true; the input reads as it did. -/
def wordTwosSpec : ChangeSpec := { name := "wordTwos", fn := fun _ => fun
  | [d1, d2] => { results := [.lit (.bool true)], args := [d1, d2] }
  | _ => none }
def wordTwosRow : OpenClaim := { program := "ytkpdipgfakdgcaa", sum := "795ccc8a6eaad8151af9d18e355179fd72c082baf0d761ef1360615abfe2e3a9", func := "synchrony/synchronylaw01.WordTwos", spec := "wordTwos", apart := false }
def WordTwosSaid : Prop := wordTwosRow.holds Try.pinned (OpenSpec.ofChange wordTwosSpec)

/-- ITS FALSE NEIGHBOUR: 'it returns false'. Refute it at one input. -/
def wordTwosWrong : ChangeSpec := { name := "wordTwos", fn := fun _ => fun
  | [d1, d2] => { results := [.lit (.bool false)], args := [d1, d2] }
  | _ => none }
def WordTwosWrongFalsely : Prop := wordTwosRow.holds Try.pinned (OpenSpec.ofChange wordTwosWrong)

/-- 'synchronylaw01.WordTurns': WHATEVER THE INPUT: true; the input reads as it did. -/
def wordTurnsSpec : ChangeSpec := { name := "wordTurns", fn := fun _ => fun
  | [d] => { results := [.lit (.bool true)], args := [d] }
  | _ => none }
def wordTurnsRow : OpenClaim := { program := "ytkpdipgfakdgcaa", sum := "795ccc8a6eaad8151af9d18e355179fd72c082baf0d761ef1360615abfe2e3a9", func := "synchrony/synchronylaw01.WordTurns", spec := "wordTurns", apart := false }
def WordTurnsSaid : Prop := wordTurnsRow.holds Try.pinned (OpenSpec.ofChange wordTurnsSpec)

/-- ITS FALSE NEIGHBOUR: 'it returns false'. Refute it at one input. -/
def wordTurnsWrong : ChangeSpec := { name := "wordTurns", fn := fun _ => fun
  | [d] => { results := [.lit (.bool false)], args := [d] }
  | _ => none }
def WordTurnsWrongFalsely : Prop := wordTurnsRow.holds Try.pinned (OpenSpec.ofChange wordTurnsWrong)

/-- 'synchronylaw01.WordCongruent': WHATEVER THE INPUT: true; the input reads as it did. -/
def wordCongruentSpec : ChangeSpec := { name := "wordCongruent", fn := fun _ => fun
  | [d1, d2] => { results := [.lit (.bool true)], args := [d1, d2] }
  | _ => none }
def wordCongruentRow : OpenClaim := { program := "ytkpdipgfakdgcaa", sum := "795ccc8a6eaad8151af9d18e355179fd72c082baf0d761ef1360615abfe2e3a9", func := "synchrony/synchronylaw01.WordCongruent", spec := "wordCongruent", apart := false }
def WordCongruentSaid : Prop := wordCongruentRow.holds Try.pinned (OpenSpec.ofChange wordCongruentSpec)

/-- ITS FALSE NEIGHBOUR: 'it returns false'. Refute it at one input. -/
def wordCongruentWrong : ChangeSpec := { name := "wordCongruent", fn := fun _ => fun
  | [d1, d2] => { results := [.lit (.bool false)], args := [d1, d2] }
  | _ => none }
def WordCongruentWrongFalsely : Prop := wordCongruentRow.holds Try.pinned (OpenSpec.ofChange wordCongruentWrong)

/- THE SECOND FORM. 'bulk': how many values and letters a reading holds, each counted each time it is reached (what is shared counts as often as it is met; a slice's spare places count too). A statement '..UptoSaid' is the law's where the arguments, and the package variables that the reading takes, are together of bulk at most 1048576: NARROWER than '..Said'. Prove '..Said' where nothing that the law and all that it calls make is longer than what came in: it says more and counts as full. Else prove '..UptoSaid'. A law counts once. -/
mutual
def uptoBulk {H : Type} : DataW H → Nat
  | .lit (.string bytes) => bytes.length + 1
  | .lit _ => 1
  | .nil => 1
  | .ptr d => uptoBulk d + 1
  | .slice elems spare => uptoBulkAll elems + uptoBulkAll spare + 1
  | .agg parts => uptoBulkAll parts + 1
  | .iface _ d => uptoBulk d + 1
  | .map entries => uptoBulkEntries entries + 1
  | .held _ => 1
def uptoBulkAll {H : Type} : List (DataW H) → Nat
  | [] => 0
  | d :: r => uptoBulk d + uptoBulkAll r
def uptoBulkEntries {H : Type} : List (Lit × DataW H) → Nat
  | [] => 0
  | x :: r => uptoBulkEntry x + uptoBulkEntries r
def uptoBulkEntry {H : Type} : Lit × DataW H → Nat
  | (.string bytes, d) => bytes.length + uptoBulk d + 1
  | (_, d) => uptoBulk d + 1
 end
def uptoSmall : (H : Type) → List (DataW H) → Bool := fun _ ds => decide (uptoBulkAll ds ≤ 1048576)
def OpenSpec.upto (s : _root_.Go.ChangeSpec) : _root_.Go.OpenSpec := { _root_.Go.OpenSpec.ofChange s with cond := some uptoSmall }

/-- 'synchronylaw01.WordBits', WHERE WHAT IT READS IS OF BULK AT MOST 1048576: true; the input reads as it did. -/
def wordBitsUptoRow : OpenClaim := { program := "ytkpdipgfakdgcaa", sum := "795ccc8a6eaad8151af9d18e355179fd72c082baf0d761ef1360615abfe2e3a9", func := "synchrony/synchronylaw01.WordBits", spec := "wordBits", apart := false, narrowed := true }
def WordBitsUptoSaid : Prop := wordBitsUptoRow.holds Try.pinned (OpenSpec.upto wordBitsSpec)

/-- 'synchronylaw01.WordDivides', WHERE WHAT IT READS IS OF BULK AT MOST 1048576: true; the input reads as it did. -/
def wordDividesUptoRow : OpenClaim := { program := "ytkpdipgfakdgcaa", sum := "795ccc8a6eaad8151af9d18e355179fd72c082baf0d761ef1360615abfe2e3a9", func := "synchrony/synchronylaw01.WordDivides", spec := "wordDivides", apart := false, narrowed := true }
def WordDividesUptoSaid : Prop := wordDividesUptoRow.holds Try.pinned (OpenSpec.upto wordDividesSpec)

/-- 'synchronylaw01.WordOnes', WHERE WHAT IT READS IS OF BULK AT MOST 1048576: true; the input reads as it did. -/
def wordOnesUptoRow : OpenClaim := { program := "ytkpdipgfakdgcaa", sum := "795ccc8a6eaad8151af9d18e355179fd72c082baf0d761ef1360615abfe2e3a9", func := "synchrony/synchronylaw01.WordOnes", spec := "wordOnes", apart := false, narrowed := true }
def WordOnesUptoSaid : Prop := wordOnesUptoRow.holds Try.pinned (OpenSpec.upto wordOnesSpec)

/-- 'synchronylaw01.WordTwos', WHERE WHAT IT READS IS OF BULK AT MOST 1048576: true; the input reads as it did. -/
def wordTwosUptoRow : OpenClaim := { program := "ytkpdipgfakdgcaa", sum := "795ccc8a6eaad8151af9d18e355179fd72c082baf0d761ef1360615abfe2e3a9", func := "synchrony/synchronylaw01.WordTwos", spec := "wordTwos", apart := false, narrowed := true }
def WordTwosUptoSaid : Prop := wordTwosUptoRow.holds Try.pinned (OpenSpec.upto wordTwosSpec)

/-- 'synchronylaw01.WordTurns', WHERE WHAT IT READS IS OF BULK AT MOST 1048576: true; the input reads as it did. -/
def wordTurnsUptoRow : OpenClaim := { program := "ytkpdipgfakdgcaa", sum := "795ccc8a6eaad8151af9d18e355179fd72c082baf0d761ef1360615abfe2e3a9", func := "synchrony/synchronylaw01.WordTurns", spec := "wordTurns", apart := false, narrowed := true }
def WordTurnsUptoSaid : Prop := wordTurnsUptoRow.holds Try.pinned (OpenSpec.upto wordTurnsSpec)

/-- 'synchronylaw01.WordCongruent', WHERE WHAT IT READS IS OF BULK AT MOST 1048576: true; the input reads as it did. -/
def wordCongruentUptoRow : OpenClaim := { program := "ytkpdipgfakdgcaa", sum := "795ccc8a6eaad8151af9d18e355179fd72c082baf0d761ef1360615abfe2e3a9", func := "synchrony/synchronylaw01.WordCongruent", spec := "wordCongruent", apart := false, narrowed := true }
def WordCongruentUptoSaid : Prop := wordCongruentUptoRow.holds Try.pinned (OpenSpec.upto wordCongruentSpec)

end Rows
end Go.Proofs.Ytkpdipgfakdgcaa
