/-
  NARROWER THAN 'FOR EVERY INPUT', by the rows' own cells (each row's printed sentence says how): CauseChecks: loops · CauseEdges: loops · CauseOrders: loops · CauseDelays: loops · CauseTurned: loops.
  DERIVED. THE GIVEN ROWS OF THIS SEAT. 5 by the template 'for every input the law returns true; each argument reads behind the call as it read before'; 0 by the template 'total and deterministic' (their statements: YtljbhgpanekomaaGreatTotals.lean).
  GIVEN WITH THE SEED: the statements are not yours to turn. If you find one false, say at which input.
  Laid BY PROGRAM, IN A SANDBOX (cutbox-rows.mjs): the forced cells as the released guide's own fill.sh prints them over the translation 05207a1e597918f5… (all of the seat's roots in one cut). By AI agents, Wed Nov 11 2026. No macro, syntax, notation, axiom, sorry.
-/
import Derived.Test.YtljbhgpanekomaaGreatChecked
import GoSem.Claim
import GoSem.ClaimJoined
import GoSem.ClaimMapViews
import Derived.JoinedTies
import Derived.KernelRfl
namespace Go.Proofs.YtljbhgpanekomaaGreat
/- THE CELL 'sum', in the pinned program and in every row, IS THE sha256 OF THE DUMP (.gsa) THAT YtljbhgpanekomaaGreatProg.lean LOADS. Nothing in Lean hashes anything: it is a label: what it is worth is what the hold of that sum in a sandbox is worth. -/
noncomputable def Tryz.pinned : Pinned := { name := "ytljbhgpanekomaagreat", sum := "05207a1e597918f523d1e2ade12e8f28913e8b0abeb2789e4ce63d6bb6f07015", checked := Tryz.checked }
namespace Rows
def none {H : Type} : Left H := { results := [], args := [] }

/-- 'synchronylaw14.CauseChecks': WHATEVER THE INPUT: true; the input reads as it did. -/
def causeChecksSpec : ChangeSpec := { name := "causeChecks", fn := fun _ => fun
  | [d] => { results := [.lit (.bool true)], args := [d] }
  | _ => none }
def causeChecksRow : OpenClaim := { program := "ytljbhgpanekomaagreat", sum := "05207a1e597918f523d1e2ade12e8f28913e8b0abeb2789e4ce63d6bb6f07015", func := "synchrony/synchronylaw14.CauseChecks", spec := "causeChecks", inPlace := ["internal/bytealg.IndexByteString", "internal/bytealg.IndexString"], unfollowed := true, recurses := true, named := ["internal/bytealg.MaxLen"], loops := true, plainKeys := false, apart := false }
def CauseChecksSaid : Prop := causeChecksRow.holds Tryz.pinned (OpenSpec.ofChange causeChecksSpec)

/-- ITS FALSE NEIGHBOUR: 'it returns false'. Refute it at one input. -/
def causeChecksWrong : ChangeSpec := { name := "causeChecks", fn := fun _ => fun
  | [d] => { results := [.lit (.bool false)], args := [d] }
  | _ => none }
def CauseChecksWrongFalsely : Prop := causeChecksRow.holds Tryz.pinned (OpenSpec.ofChange causeChecksWrong)

/-- 'synchronylaw14.CauseEdges': WHATEVER THE INPUT: true; the input reads as it did. -/
def causeEdgesSpec : ChangeSpec := { name := "causeEdges", fn := fun _ => fun
  | [d1, d2] => { results := [.lit (.bool true)], args := [d1, d2] }
  | _ => none }
def causeEdgesRow : OpenClaim := { program := "ytljbhgpanekomaagreat", sum := "05207a1e597918f523d1e2ade12e8f28913e8b0abeb2789e4ce63d6bb6f07015", func := "synchrony/synchronylaw14.CauseEdges", spec := "causeEdges", inPlace := ["internal/bytealg.IndexByteString", "internal/bytealg.IndexString"], unfollowed := true, recurses := true, named := ["internal/bytealg.MaxLen"], loops := true, plainKeys := false, apart := false }
def CauseEdgesSaid : Prop := causeEdgesRow.holds Tryz.pinned (OpenSpec.ofChange causeEdgesSpec)

/-- ITS FALSE NEIGHBOUR: 'it returns false'. Refute it at one input. -/
def causeEdgesWrong : ChangeSpec := { name := "causeEdges", fn := fun _ => fun
  | [d1, d2] => { results := [.lit (.bool false)], args := [d1, d2] }
  | _ => none }
def CauseEdgesWrongFalsely : Prop := causeEdgesRow.holds Tryz.pinned (OpenSpec.ofChange causeEdgesWrong)

/-- 'synchronylaw14.CauseOrders': WHATEVER THE INPUT: true; the input reads as it did. -/
def causeOrdersSpec : ChangeSpec := { name := "causeOrders", fn := fun _ => fun
  | [d] => { results := [.lit (.bool true)], args := [d] }
  | _ => none }
def causeOrdersRow : OpenClaim := { program := "ytljbhgpanekomaagreat", sum := "05207a1e597918f523d1e2ade12e8f28913e8b0abeb2789e4ce63d6bb6f07015", func := "synchrony/synchronylaw14.CauseOrders", spec := "causeOrders", inPlace := ["internal/bytealg.IndexByteString", "internal/bytealg.IndexString"], unfollowed := true, recurses := true, named := ["internal/bytealg.MaxLen"], loops := true, plainKeys := false, apart := false }
def CauseOrdersSaid : Prop := causeOrdersRow.holds Tryz.pinned (OpenSpec.ofChange causeOrdersSpec)

/-- ITS FALSE NEIGHBOUR: 'it returns false'. Refute it at one input. -/
def causeOrdersWrong : ChangeSpec := { name := "causeOrders", fn := fun _ => fun
  | [d] => { results := [.lit (.bool false)], args := [d] }
  | _ => none }
def CauseOrdersWrongFalsely : Prop := causeOrdersRow.holds Tryz.pinned (OpenSpec.ofChange causeOrdersWrong)

/-- 'synchronylaw14.CauseDelays': WHATEVER THE INPUT: true; the input reads as it did. -/
def causeDelaysSpec : ChangeSpec := { name := "causeDelays", fn := fun _ => fun
  | [d1, d2] => { results := [.lit (.bool true)], args := [d1, d2] }
  | _ => none }
def causeDelaysRow : OpenClaim := { program := "ytljbhgpanekomaagreat", sum := "05207a1e597918f523d1e2ade12e8f28913e8b0abeb2789e4ce63d6bb6f07015", func := "synchrony/synchronylaw14.CauseDelays", spec := "causeDelays", inPlace := ["internal/bytealg.IndexByteString", "internal/bytealg.IndexString"], unfollowed := true, recurses := true, named := ["internal/bytealg.MaxLen"], loops := true, plainKeys := false, apart := false }
def CauseDelaysSaid : Prop := causeDelaysRow.holds Tryz.pinned (OpenSpec.ofChange causeDelaysSpec)

/-- ITS FALSE NEIGHBOUR: 'it returns false'. Refute it at one input. -/
def causeDelaysWrong : ChangeSpec := { name := "causeDelays", fn := fun _ => fun
  | [d1, d2] => { results := [.lit (.bool false)], args := [d1, d2] }
  | _ => none }
def CauseDelaysWrongFalsely : Prop := causeDelaysRow.holds Tryz.pinned (OpenSpec.ofChange causeDelaysWrong)

/-- 'synchronylaw14.CauseTurned': WHATEVER THE INPUT: true; the input reads as it did. -/
def causeTurnedSpec : ChangeSpec := { name := "causeTurned", fn := fun _ => fun
  | [d] => { results := [.lit (.bool true)], args := [d] }
  | _ => none }
def causeTurnedRow : OpenClaim := { program := "ytljbhgpanekomaagreat", sum := "05207a1e597918f523d1e2ade12e8f28913e8b0abeb2789e4ce63d6bb6f07015", func := "synchrony/synchronylaw14.CauseTurned", spec := "causeTurned", inPlace := ["internal/bytealg.IndexByteString", "internal/bytealg.IndexString"], unfollowed := true, recurses := true, named := ["internal/bytealg.MaxLen"], loops := true, plainKeys := false, apart := false }
def CauseTurnedSaid : Prop := causeTurnedRow.holds Tryz.pinned (OpenSpec.ofChange causeTurnedSpec)

/-- ITS FALSE NEIGHBOUR: 'it returns false'. Refute it at one input. -/
def causeTurnedWrong : ChangeSpec := { name := "causeTurned", fn := fun _ => fun
  | [d] => { results := [.lit (.bool false)], args := [d] }
  | _ => none }
def CauseTurnedWrongFalsely : Prop := causeTurnedRow.holds Tryz.pinned (OpenSpec.ofChange causeTurnedWrong)

/- THE SECOND FORM. 'bulk': how many values and letters a reading holds, each counted each time it is reached (what is shared counts as often as it is met; a slice's spare places count too). A statement '..UptoSaid' is the law's where the arguments, and the package variables that the reading takes, are together of bulk at most 1048576: NARROWER than '..Said'. Prove '..Said' where nothing that the law and all that it calls make is longer than what came in: it says more and counts as full. Else prove '..UptoSaid'. A law counts once. -/
mutual
def uptoBulk {H : Type} : DataW H → Nat
  | .lit (.string bytes) => bytes.length + 1
  | .lit _ => 1
  | .nil => 1
  | .ptr d => uptoBulk d + 1
  | .slice elems spare => uptoBulkAll elems + uptoBulkAll spare + 1
  | .agg parts => uptoBulkAll parts + 1
  | .iface _ d => uptoBulk d + 1
  | .map entries => uptoBulkEntries entries + 1
  | .held _ => 1
def uptoBulkAll {H : Type} : List (DataW H) → Nat
  | [] => 0
  | d :: r => uptoBulk d + uptoBulkAll r
def uptoBulkEntries {H : Type} : List (Lit × DataW H) → Nat
  | [] => 0
  | x :: r => uptoBulkEntry x + uptoBulkEntries r
def uptoBulkEntry {H : Type} : Lit × DataW H → Nat
  | (.string bytes, d) => bytes.length + uptoBulk d + 1
  | (_, d) => uptoBulk d + 1
 end
def uptoSmall : (H : Type) → List (DataW H) → Bool := fun _ ds => decide (uptoBulkAll ds ≤ 1048576)
def OpenSpec.upto (s : _root_.Go.ChangeSpec) : _root_.Go.OpenSpec := { _root_.Go.OpenSpec.ofChange s with cond := some uptoSmall }

/-- 'synchronylaw14.CauseChecks', WHERE WHAT IT READS IS OF BULK AT MOST 1048576: true; the input reads as it did. -/
def causeChecksUptoRow : OpenClaim := { program := "ytljbhgpanekomaagreat", sum := "05207a1e597918f523d1e2ade12e8f28913e8b0abeb2789e4ce63d6bb6f07015", func := "synchrony/synchronylaw14.CauseChecks", spec := "causeChecks", inPlace := ["internal/bytealg.IndexByteString", "internal/bytealg.IndexString"], unfollowed := true, recurses := true, named := ["internal/bytealg.MaxLen"], loops := true, plainKeys := false, apart := false, narrowed := true }
def CauseChecksUptoSaid : Prop := causeChecksUptoRow.holds Tryz.pinned (OpenSpec.upto causeChecksSpec)

/-- 'synchronylaw14.CauseEdges', WHERE WHAT IT READS IS OF BULK AT MOST 1048576: true; the input reads as it did. -/
def causeEdgesUptoRow : OpenClaim := { program := "ytljbhgpanekomaagreat", sum := "05207a1e597918f523d1e2ade12e8f28913e8b0abeb2789e4ce63d6bb6f07015", func := "synchrony/synchronylaw14.CauseEdges", spec := "causeEdges", inPlace := ["internal/bytealg.IndexByteString", "internal/bytealg.IndexString"], unfollowed := true, recurses := true, named := ["internal/bytealg.MaxLen"], loops := true, plainKeys := false, apart := false, narrowed := true }
def CauseEdgesUptoSaid : Prop := causeEdgesUptoRow.holds Tryz.pinned (OpenSpec.upto causeEdgesSpec)

/-- 'synchronylaw14.CauseOrders', WHERE WHAT IT READS IS OF BULK AT MOST 1048576: true; the input reads as it did. -/
def causeOrdersUptoRow : OpenClaim := { program := "ytljbhgpanekomaagreat", sum := "05207a1e597918f523d1e2ade12e8f28913e8b0abeb2789e4ce63d6bb6f07015", func := "synchrony/synchronylaw14.CauseOrders", spec := "causeOrders", inPlace := ["internal/bytealg.IndexByteString", "internal/bytealg.IndexString"], unfollowed := true, recurses := true, named := ["internal/bytealg.MaxLen"], loops := true, plainKeys := false, apart := false, narrowed := true }
def CauseOrdersUptoSaid : Prop := causeOrdersUptoRow.holds Tryz.pinned (OpenSpec.upto causeOrdersSpec)

/-- 'synchronylaw14.CauseDelays', WHERE WHAT IT READS IS OF BULK AT MOST 1048576: true; the input reads as it did. -/
def causeDelaysUptoRow : OpenClaim := { program := "ytljbhgpanekomaagreat", sum := "05207a1e597918f523d1e2ade12e8f28913e8b0abeb2789e4ce63d6bb6f07015", func := "synchrony/synchronylaw14.CauseDelays", spec := "causeDelays", inPlace := ["internal/bytealg.IndexByteString", "internal/bytealg.IndexString"], unfollowed := true, recurses := true, named := ["internal/bytealg.MaxLen"], loops := true, plainKeys := false, apart := false, narrowed := true }
def CauseDelaysUptoSaid : Prop := causeDelaysUptoRow.holds Tryz.pinned (OpenSpec.upto causeDelaysSpec)

/-- 'synchronylaw14.CauseTurned', WHERE WHAT IT READS IS OF BULK AT MOST 1048576: true; the input reads as it did. -/
def causeTurnedUptoRow : OpenClaim := { program := "ytljbhgpanekomaagreat", sum := "05207a1e597918f523d1e2ade12e8f28913e8b0abeb2789e4ce63d6bb6f07015", func := "synchrony/synchronylaw14.CauseTurned", spec := "causeTurned", inPlace := ["internal/bytealg.IndexByteString", "internal/bytealg.IndexString"], unfollowed := true, recurses := true, named := ["internal/bytealg.MaxLen"], loops := true, plainKeys := false, apart := false, narrowed := true }
def CauseTurnedUptoSaid : Prop := causeTurnedUptoRow.holds Tryz.pinned (OpenSpec.upto causeTurnedSpec)

end Rows
end Go.Proofs.YtljbhgpanekomaaGreat
