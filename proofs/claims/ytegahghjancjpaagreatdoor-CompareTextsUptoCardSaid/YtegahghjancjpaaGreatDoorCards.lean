/-
  DERIVED. GIVEN WITH THE SEED: THE CARDS: each row of YtegahghjancjpaaGreatDoorRows.lean that lists a variable, with what it lists TIED to the program's text (the seventh form; the later family's looks); each row that meets fmt, with fmt's text TOLD by the authors' own Lean function (tested against real Go, not proved from fmt's source: count such statements apart). THE CARD IS WHAT COUNTS. Prove the row's statement (the work); the ties are given (YtegahghjancjpaaGreatDoorTie.lean); close each card by the builder's one call (the guide's Derived/Test/ToyasCard.lean, 'card_holds'). Laid BY PROGRAM, IN A SANDBOX (cutbox-door.mjs). By AI agents, Wed Nov 11 2026. No macro, syntax, notation, axiom, sorry.
-/
import Derived.Test.YtegahghjancjpaaGreatDoorRows
import GoSem.ClaimSeven
namespace Go.Proofs.YtegahghjancjpaaGreatDoor
namespace Rows

/-- THE TIED CARD OF 'synchronylaw43.TraceTexts'. -/
def traceTextsCard : Claim7 := { stood := { row := traceTextsRow, standIns := [], harness := (true, "f893bf4a153e4e11d9a52204d9ae61a4839158554ec189b89ba7cdc92eb96efe"), looks := true }, kinds := [], alts := [], laidByText := true, laidKinds := [.data, .data, .data, .sentinel, .sentinel], laidTests := true, laidLooks := .later }
def TraceTextsCardSaid : Prop := Claim7.holds Tryz.pinned (.plain (OpenSpec.ofChange traceTextsSpec)) traceTextsCard

/-- THE TIED CARD OF 'synchronylaw43.TraceParses'. -/
def traceParsesCard : Claim7 := { stood := { row := traceParsesRow, standIns := [], harness := (true, "f893bf4a153e4e11d9a52204d9ae61a4839158554ec189b89ba7cdc92eb96efe"), looks := true }, kinds := [], alts := [], laidByText := true, laidKinds := [.data, .data, .data, .sentinel, .sentinel], laidTests := true, laidLooks := .later }
def TraceParsesCardSaid : Prop := Claim7.holds Tryz.pinned (.plain (OpenSpec.ofChange traceParsesSpec)) traceParsesCard

/-- THE TIED CARD OF 'synchronylaw44.CompareTexts'. -/
def compareTextsCard : Claim7 := { stood := { row := compareTextsRow, standIns := [], harness := (true, "f893bf4a153e4e11d9a52204d9ae61a4839158554ec189b89ba7cdc92eb96efe"), looks := true }, kinds := [], alts := [], laidByText := true, laidKinds := [.data, .data, .data, .sentinel, .sentinel], laidTests := true, laidLooks := .later }
def CompareTextsCardSaid : Prop := Claim7.holds Tryz.pinned (.plain (OpenSpec.ofChange compareTextsSpec)) compareTextsCard

/-- THE SECOND FORM's CARD OF 'synchronylaw43.TraceTexts'. -/
def traceTextsUptoCard : Claim7 := { stood := { row := traceTextsUptoRow, standIns := [], harness := (true, "f893bf4a153e4e11d9a52204d9ae61a4839158554ec189b89ba7cdc92eb96efe"), looks := true }, kinds := [], alts := [], laidByText := true, laidKinds := [.data, .data, .data, .sentinel, .sentinel], laidTests := true, laidLooks := .later }
def TraceTextsUptoCardSaid : Prop := Claim7.holds Tryz.pinned (.plain (OpenSpec.upto traceTextsSpec)) traceTextsUptoCard

/-- THE SECOND FORM's CARD OF 'synchronylaw43.TraceParses'. -/
def traceParsesUptoCard : Claim7 := { stood := { row := traceParsesUptoRow, standIns := [], harness := (true, "f893bf4a153e4e11d9a52204d9ae61a4839158554ec189b89ba7cdc92eb96efe"), looks := true }, kinds := [], alts := [], laidByText := true, laidKinds := [.data, .data, .data, .sentinel, .sentinel], laidTests := true, laidLooks := .later }
def TraceParsesUptoCardSaid : Prop := Claim7.holds Tryz.pinned (.plain (OpenSpec.upto traceParsesSpec)) traceParsesUptoCard

/-- THE SECOND FORM's CARD OF 'synchronylaw44.CompareTexts'. -/
def compareTextsUptoCard : Claim7 := { stood := { row := compareTextsUptoRow, standIns := [], harness := (true, "f893bf4a153e4e11d9a52204d9ae61a4839158554ec189b89ba7cdc92eb96efe"), looks := true }, kinds := [], alts := [], laidByText := true, laidKinds := [.data, .data, .data, .sentinel, .sentinel], laidTests := true, laidLooks := .later }
def CompareTextsUptoCardSaid : Prop := Claim7.holds Tryz.pinned (.plain (OpenSpec.upto compareTextsSpec)) compareTextsUptoCard
end Rows
end Go.Proofs.YtegahghjancjpaaGreatDoor
