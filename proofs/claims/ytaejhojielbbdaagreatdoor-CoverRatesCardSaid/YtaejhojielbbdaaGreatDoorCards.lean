/-
  DERIVED. GIVEN WITH THE SEED: THE CARDS: each row of YtaejhojielbbdaaGreatDoorRows.lean that lists a variable, with what it lists TIED to the program's text (the seventh form; the later family's looks); each row that meets fmt, with fmt's text TOLD by the authors' own Lean function (tested against real Go, not proved from fmt's source: count such statements apart). THE CARD IS WHAT COUNTS. Prove the row's statement (the work); the ties are given (YtaejhojielbbdaaGreatDoorTie.lean); close each card by the builder's one call (the guide's Derived/Test/ToyasCard.lean, 'card_holds'). Laid BY PROGRAM, IN A SANDBOX (cutbox-door.mjs). By AI agents, Wed Nov 11 2026. No macro, syntax, notation, axiom, sorry.
-/
import Derived.Test.YtaejhojielbbdaaGreatDoorRows
import GoSem.ClaimSeven
namespace Go.Proofs.YtaejhojielbbdaaGreatDoor
namespace Rows

/-- THE TIED CARD OF 'synchronylaw45.CoverRates'. -/
def coverRatesCard : Claim7 := { stood := { row := coverRatesRow, standIns := [], harness := (true, "9f60b61577bf900bc3cb9e65b037e91791c0bcaddc89ff2b5841c8311d078561"), looks := true }, kinds := [], alts := [], laidByText := true, laidKinds := [.data, .data, .data], laidTests := true, laidLooks := .later }
def CoverRatesCardSaid : Prop := Claim7.holds Tryz.pinned (.plain (OpenSpec.ofChange coverRatesSpec)) coverRatesCard

/-- THE SECOND FORM's CARD OF 'synchronylaw45.CoverRates'. -/
def coverRatesUptoCard : Claim7 := { stood := { row := coverRatesUptoRow, standIns := [], harness := (true, "9f60b61577bf900bc3cb9e65b037e91791c0bcaddc89ff2b5841c8311d078561"), looks := true }, kinds := [], alts := [], laidByText := true, laidKinds := [.data, .data, .data], laidTests := true, laidLooks := .later }
def CoverRatesUptoCardSaid : Prop := Claim7.holds Tryz.pinned (.plain (OpenSpec.upto coverRatesSpec)) coverRatesUptoCard
end Rows
end Go.Proofs.YtaejhojielbbdaaGreatDoor
