/-
  DERIVED. GIVEN WITH THE SEED: THE CARDS: each row of YtegahghjancjpaaDoorRows.lean that lists a variable, with what it lists TIED to the program's text (the seventh form; the later family's looks); each row that meets fmt, with fmt's text TOLD by the authors' own Lean function (tested against real Go, not proved from fmt's source: count such statements apart). THE CARD IS WHAT COUNTS. Prove the row's statement (the work); the ties are given (YtegahghjancjpaaDoorTie.lean); close each card by the builder's one call (the guide's Derived/Test/ToyasCard.lean, 'card_holds'). Laid BY PROGRAM, IN A SANDBOX (cutbox-door.mjs). By AI agents, Wed Nov 11 2026. No macro, syntax, notation, axiom, sorry.
-/
import Derived.Test.YtegahghjancjpaaDoorRows
import GoSem.ClaimSeven
namespace Go.Proofs.YtegahghjancjpaaDoor
namespace Rows

/-- THE TIED CARD OF 'synchronylaw43.TraceRound'. -/
def traceRoundCard : Claim7 := { stood := { row := traceRoundRow, standIns := [], harness := (true, "a8ce1f898b9bd7275c87c84bddf45e5f0fa0b6e9389189c68d5d997ab6b6b328"), looks := true }, kinds := [], alts := [], laidByText := true, laidKinds := [.data, .data, .data, .sentinel, .sentinel], laidTests := true, laidLooks := .later }
def TraceRoundCardSaid : Prop := Claim7.holds Tryd.pinned (.plain (OpenSpec.ofChange traceRoundSpec)) traceRoundCard

/-- THE TIED CARD OF 'synchronylaw43.TraceBack'. -/
def traceBackCard : Claim7 := { stood := { row := traceBackRow, standIns := [], harness := (true, "a8ce1f898b9bd7275c87c84bddf45e5f0fa0b6e9389189c68d5d997ab6b6b328"), looks := true }, kinds := [], alts := [], laidByText := true, laidKinds := [.data, .data, .data, .sentinel, .sentinel], laidTests := true, laidLooks := .later }
def TraceBackCardSaid : Prop := Claim7.holds Tryd.pinned (.plain (OpenSpec.ofChange traceBackSpec)) traceBackCard

/-- THE TIED CARD OF 'synchronylaw43.TraceCols'. -/
def traceColsCard : Claim7 := { stood := { row := traceColsRow, standIns := [], harness := (true, "a8ce1f898b9bd7275c87c84bddf45e5f0fa0b6e9389189c68d5d997ab6b6b328"), looks := true }, kinds := [], alts := [], laidByText := true, laidKinds := [.data, .data, .data, .sentinel, .sentinel], laidTests := true, laidLooks := .later }
def TraceColsCardSaid : Prop := Claim7.holds Tryd.pinned (.plain (OpenSpec.ofChange traceColsSpec)) traceColsCard

/-- THE SECOND FORM's CARD OF 'synchronylaw43.TraceRound'. -/
def traceRoundUptoCard : Claim7 := { stood := { row := traceRoundUptoRow, standIns := [], harness := (true, "a8ce1f898b9bd7275c87c84bddf45e5f0fa0b6e9389189c68d5d997ab6b6b328"), looks := true }, kinds := [], alts := [], laidByText := true, laidKinds := [.data, .data, .data, .sentinel, .sentinel], laidTests := true, laidLooks := .later }
def TraceRoundUptoCardSaid : Prop := Claim7.holds Tryd.pinned (.plain (OpenSpec.upto traceRoundSpec)) traceRoundUptoCard

/-- THE SECOND FORM's CARD OF 'synchronylaw43.TraceBack'. -/
def traceBackUptoCard : Claim7 := { stood := { row := traceBackUptoRow, standIns := [], harness := (true, "a8ce1f898b9bd7275c87c84bddf45e5f0fa0b6e9389189c68d5d997ab6b6b328"), looks := true }, kinds := [], alts := [], laidByText := true, laidKinds := [.data, .data, .data, .sentinel, .sentinel], laidTests := true, laidLooks := .later }
def TraceBackUptoCardSaid : Prop := Claim7.holds Tryd.pinned (.plain (OpenSpec.upto traceBackSpec)) traceBackUptoCard

/-- THE SECOND FORM's CARD OF 'synchronylaw43.TraceCols'. -/
def traceColsUptoCard : Claim7 := { stood := { row := traceColsUptoRow, standIns := [], harness := (true, "a8ce1f898b9bd7275c87c84bddf45e5f0fa0b6e9389189c68d5d997ab6b6b328"), looks := true }, kinds := [], alts := [], laidByText := true, laidKinds := [.data, .data, .data, .sentinel, .sentinel], laidTests := true, laidLooks := .later }
def TraceColsUptoCardSaid : Prop := Claim7.holds Tryd.pinned (.plain (OpenSpec.upto traceColsSpec)) traceColsUptoCard
end Rows
end Go.Proofs.YtegahghjancjpaaDoor
