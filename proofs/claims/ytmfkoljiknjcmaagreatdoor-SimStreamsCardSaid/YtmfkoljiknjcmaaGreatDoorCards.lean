/-
  DERIVED. GIVEN WITH THE SEED: THE CARDS: each row of YtmfkoljiknjcmaaGreatDoorRows.lean that lists a variable, with what it lists TIED to the program's text (the seventh form; the later family's looks); each row that meets fmt, with fmt's text TOLD by the authors' own Lean function (tested against real Go, not proved from fmt's source: count such statements apart). THE CARD IS WHAT COUNTS. Prove the row's statement (the work); the ties are given (YtmfkoljiknjcmaaGreatDoorTie.lean); close each card by the builder's one call (the guide's Derived/Test/ToyasCard.lean, 'card_holds'). Laid BY PROGRAM, IN A SANDBOX (cutbox-door.mjs). By AI agents, Wed Nov 11 2026. No macro, syntax, notation, axiom, sorry.
-/
import Derived.Test.YtmfkoljiknjcmaaGreatDoorRows
import GoSem.ClaimSeven
namespace Go.Proofs.YtmfkoljiknjcmaaGreatDoor
namespace Rows

/-- THE TIED CARD OF 'synchronylaw17.SimStreams'. -/
def simStreamsCard : Claim7 := { stood := { row := simStreamsRow, standIns := [], harness := (true, "86b686c31683ea6d64f5510c3f2a2e2aae1afbe69c48b5b2750076493eb6b762"), looks := true }, kinds := [], alts := [], laidByText := true, laidKinds := [.data, .data, .data], laidTests := true, laidLooks := .later }
def SimStreamsCardSaid : Prop := Claim7.holds Tryz.pinned (.plain (OpenSpec.ofChange simStreamsSpec)) simStreamsCard

/-- THE SECOND FORM's CARD OF 'synchronylaw17.SimStreams'. -/
def simStreamsUptoCard : Claim7 := { stood := { row := simStreamsUptoRow, standIns := [], harness := (true, "86b686c31683ea6d64f5510c3f2a2e2aae1afbe69c48b5b2750076493eb6b762"), looks := true }, kinds := [], alts := [], laidByText := true, laidKinds := [.data, .data, .data], laidTests := true, laidLooks := .later }
def SimStreamsUptoCardSaid : Prop := Claim7.holds Tryz.pinned (.plain (OpenSpec.upto simStreamsSpec)) simStreamsUptoCard
end Rows
end Go.Proofs.YtmfkoljiknjcmaaGreatDoor
