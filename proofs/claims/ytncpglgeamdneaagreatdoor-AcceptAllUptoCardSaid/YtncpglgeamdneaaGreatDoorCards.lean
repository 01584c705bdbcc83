/-
  DERIVED. GIVEN WITH THE SEED: THE CARDS: each row of YtncpglgeamdneaaGreatDoorRows.lean that lists a variable, with what it lists TIED to the program's text (the seventh form; the later family's looks); each row that meets fmt, with fmt's text TOLD by the authors' own Lean function (tested against real Go, not proved from fmt's source: count such statements apart). THE CARD IS WHAT COUNTS. Prove the row's statement (the work); the ties are given (YtncpglgeamdneaaGreatDoorTie.lean); close each card by the builder's one call (the guide's Derived/Test/ToyasCard.lean, 'card_holds'). Laid BY PROGRAM, IN A SANDBOX (cutbox-door.mjs). By AI agents, Wed Nov 11 2026. No macro, syntax, notation, axiom, sorry.
-/
import Derived.Test.YtncpglgeamdneaaGreatDoorRows
import GoSem.ClaimSeven
namespace Go.Proofs.YtncpglgeamdneaaGreatDoor
namespace Rows

/-- THE TIED CARD OF 'synchronylaw18.AcceptAll'. -/
def acceptAllCard : Claim7 := { stood := { row := acceptAllRow, standIns := [], harness := (true, "e54cbf716c0d51190e989ba6f9d0f6fb07cc904a37ed975123be436d4be40fb0"), looks := true }, kinds := [], alts := [], laidByText := true, laidKinds := [.data, .data, .data], laidTests := true, laidLooks := .later }
def AcceptAllCardSaid : Prop := Claim7.holds Tryz.pinned (.plain (OpenSpec.ofChange acceptAllSpec)) acceptAllCard

/-- THE TIED CARD OF 'synchronylaw17.SimPast'. -/
def simPastCard : Claim7 := { stood := { row := simPastRow, standIns := [], harness := (true, "e54cbf716c0d51190e989ba6f9d0f6fb07cc904a37ed975123be436d4be40fb0"), looks := true }, kinds := [], alts := [], laidByText := true, laidKinds := [.data, .data, .data], laidTests := true, laidLooks := .later }
def SimPastCardSaid : Prop := Claim7.holds Tryz.pinned (.plain (OpenSpec.ofChange simPastSpec)) simPastCard

/-- THE TIED CARD OF 'synchronylaw17.SimAnew'. -/
def simAnewCard : Claim7 := { stood := { row := simAnewRow, standIns := [], harness := (true, "e54cbf716c0d51190e989ba6f9d0f6fb07cc904a37ed975123be436d4be40fb0"), looks := true }, kinds := [], alts := [], laidByText := true, laidKinds := [.data, .data, .data], laidTests := true, laidLooks := .later }
def SimAnewCardSaid : Prop := Claim7.holds Tryz.pinned (.plain (OpenSpec.ofChange simAnewSpec)) simAnewCard

/-- THE TIED CARD OF 'synchronylaw44.CompareSims'. -/
def compareSimsCard : Claim7 := { stood := { row := compareSimsRow, standIns := [], harness := (true, "e54cbf716c0d51190e989ba6f9d0f6fb07cc904a37ed975123be436d4be40fb0"), looks := true }, kinds := [], alts := [], laidByText := true, laidKinds := [.data, .data, .data], laidTests := true, laidLooks := .later }
def CompareSimsCardSaid : Prop := Claim7.holds Tryz.pinned (.plain (OpenSpec.ofChange compareSimsSpec)) compareSimsCard

/-- THE SECOND FORM's CARD OF 'synchronylaw18.AcceptAll'. -/
def acceptAllUptoCard : Claim7 := { stood := { row := acceptAllUptoRow, standIns := [], harness := (true, "e54cbf716c0d51190e989ba6f9d0f6fb07cc904a37ed975123be436d4be40fb0"), looks := true }, kinds := [], alts := [], laidByText := true, laidKinds := [.data, .data, .data], laidTests := true, laidLooks := .later }
def AcceptAllUptoCardSaid : Prop := Claim7.holds Tryz.pinned (.plain (OpenSpec.upto acceptAllSpec)) acceptAllUptoCard

/-- THE SECOND FORM's CARD OF 'synchronylaw17.SimPast'. -/
def simPastUptoCard : Claim7 := { stood := { row := simPastUptoRow, standIns := [], harness := (true, "e54cbf716c0d51190e989ba6f9d0f6fb07cc904a37ed975123be436d4be40fb0"), looks := true }, kinds := [], alts := [], laidByText := true, laidKinds := [.data, .data, .data], laidTests := true, laidLooks := .later }
def SimPastUptoCardSaid : Prop := Claim7.holds Tryz.pinned (.plain (OpenSpec.upto simPastSpec)) simPastUptoCard

/-- THE SECOND FORM's CARD OF 'synchronylaw17.SimAnew'. -/
def simAnewUptoCard : Claim7 := { stood := { row := simAnewUptoRow, standIns := [], harness := (true, "e54cbf716c0d51190e989ba6f9d0f6fb07cc904a37ed975123be436d4be40fb0"), looks := true }, kinds := [], alts := [], laidByText := true, laidKinds := [.data, .data, .data], laidTests := true, laidLooks := .later }
def SimAnewUptoCardSaid : Prop := Claim7.holds Tryz.pinned (.plain (OpenSpec.upto simAnewSpec)) simAnewUptoCard

/-- THE SECOND FORM's CARD OF 'synchronylaw44.CompareSims'. -/
def compareSimsUptoCard : Claim7 := { stood := { row := compareSimsUptoRow, standIns := [], harness := (true, "e54cbf716c0d51190e989ba6f9d0f6fb07cc904a37ed975123be436d4be40fb0"), looks := true }, kinds := [], alts := [], laidByText := true, laidKinds := [.data, .data, .data], laidTests := true, laidLooks := .later }
def CompareSimsUptoCardSaid : Prop := Claim7.holds Tryz.pinned (.plain (OpenSpec.upto compareSimsSpec)) compareSimsUptoCard
end Rows
end Go.Proofs.YtncpglgeamdneaaGreatDoor
