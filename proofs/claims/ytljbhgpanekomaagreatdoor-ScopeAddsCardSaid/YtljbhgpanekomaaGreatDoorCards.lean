/-
  DERIVED. GIVEN WITH THE SEED: THE CARDS: each row of YtljbhgpanekomaaGreatDoorRows.lean that lists a variable, with what it lists TIED to the program's text (the seventh form; the later family's looks); each row that meets fmt, with fmt's text TOLD by the authors' own Lean function (tested against real Go, not proved from fmt's source: count such statements apart). THE CARD IS WHAT COUNTS. Prove the row's statement (the work); the ties are given (YtljbhgpanekomaaGreatDoorTie.lean); close each card by the builder's one call (the guide's Derived/Test/ToyasCard.lean, 'card_holds'). Laid BY PROGRAM, IN A SANDBOX (cutbox-door.mjs). By AI agents, Wed Nov 11 2026. No macro, syntax, notation, axiom, sorry.
-/
import Derived.Test.YtljbhgpanekomaaGreatDoorRows
import GoSem.ClaimSeven
namespace Go.Proofs.YtljbhgpanekomaaGreatDoor
namespace Rows

/-- THE TIED CARD OF 'synchronylaw10.ScopeChecks'. -/
def scopeChecksCard : Claim7 := { stood := { row := scopeChecksRow, standIns := [], harness := (true, "d751b228062792c25efd24a7f43c9b990f5b0ffd2ef28c347ac8acc5d960c19f"), looks := true }, kinds := [], alts := [], laidByText := true, laidKinds := [.data, .data, .data], laidTests := true, laidLooks := .later }
def ScopeChecksCardSaid : Prop := Claim7.holds Tryz.pinned (.plain (OpenSpec.ofChange scopeChecksSpec)) scopeChecksCard

/-- THE TIED CARD OF 'synchronylaw10.ScopeNodes'. -/
def scopeNodesCard : Claim7 := { stood := { row := scopeNodesRow, standIns := [], harness := (true, "d751b228062792c25efd24a7f43c9b990f5b0ffd2ef28c347ac8acc5d960c19f"), looks := true }, kinds := [], alts := [], laidByText := true, laidKinds := [.data, .data, .data], laidTests := true, laidLooks := .later }
def ScopeNodesCardSaid : Prop := Claim7.holds Tryz.pinned (.plain (OpenSpec.ofChange scopeNodesSpec)) scopeNodesCard

/-- THE TIED CARD OF 'synchronylaw10.ScopeFresh'. -/
def scopeFreshCard : Claim7 := { stood := { row := scopeFreshRow, standIns := [], harness := (true, "d751b228062792c25efd24a7f43c9b990f5b0ffd2ef28c347ac8acc5d960c19f"), looks := true }, kinds := [], alts := [], laidByText := true, laidKinds := [.data, .data, .data], laidTests := true, laidLooks := .later }
def ScopeFreshCardSaid : Prop := Claim7.holds Tryz.pinned (.plain (OpenSpec.ofChange scopeFreshSpec)) scopeFreshCard

/-- THE TIED CARD OF 'synchronylaw10.ScopeAccepts'. -/
def scopeAcceptsCard : Claim7 := { stood := { row := scopeAcceptsRow, standIns := [], harness := (true, "d751b228062792c25efd24a7f43c9b990f5b0ffd2ef28c347ac8acc5d960c19f"), looks := true }, kinds := [], alts := [], laidByText := true, laidKinds := [.data, .data, .data], laidTests := true, laidLooks := .later }
def ScopeAcceptsCardSaid : Prop := Claim7.holds Tryz.pinned (.plain (OpenSpec.ofChange scopeAcceptsSpec)) scopeAcceptsCard

/-- THE TIED CARD OF 'synchronylaw10.ScopeEnds'. -/
def scopeEndsCard : Claim7 := { stood := { row := scopeEndsRow, standIns := [], harness := (true, "d751b228062792c25efd24a7f43c9b990f5b0ffd2ef28c347ac8acc5d960c19f"), looks := true }, kinds := [], alts := [], laidByText := true, laidKinds := [.data, .data, .data], laidTests := true, laidLooks := .later }
def ScopeEndsCardSaid : Prop := Claim7.holds Tryz.pinned (.plain (OpenSpec.ofChange scopeEndsSpec)) scopeEndsCard

/-- THE TIED CARD OF 'synchronylaw10.ScopeAdds'. -/
def scopeAddsCard : Claim7 := { stood := { row := scopeAddsRow, standIns := [], harness := (true, "d751b228062792c25efd24a7f43c9b990f5b0ffd2ef28c347ac8acc5d960c19f"), looks := true }, kinds := [], alts := [], laidByText := true, laidKinds := [.data, .data, .data], laidTests := true, laidLooks := .later }
def ScopeAddsCardSaid : Prop := Claim7.holds Tryz.pinned (.plain (OpenSpec.ofChange scopeAddsSpec)) scopeAddsCard

/-- THE SECOND FORM's CARD OF 'synchronylaw10.ScopeChecks'. -/
def scopeChecksUptoCard : Claim7 := { stood := { row := scopeChecksUptoRow, standIns := [], harness := (true, "d751b228062792c25efd24a7f43c9b990f5b0ffd2ef28c347ac8acc5d960c19f"), looks := true }, kinds := [], alts := [], laidByText := true, laidKinds := [.data, .data, .data], laidTests := true, laidLooks := .later }
def ScopeChecksUptoCardSaid : Prop := Claim7.holds Tryz.pinned (.plain (OpenSpec.upto scopeChecksSpec)) scopeChecksUptoCard

/-- THE SECOND FORM's CARD OF 'synchronylaw10.ScopeNodes'. -/
def scopeNodesUptoCard : Claim7 := { stood := { row := scopeNodesUptoRow, standIns := [], harness := (true, "d751b228062792c25efd24a7f43c9b990f5b0ffd2ef28c347ac8acc5d960c19f"), looks := true }, kinds := [], alts := [], laidByText := true, laidKinds := [.data, .data, .data], laidTests := true, laidLooks := .later }
def ScopeNodesUptoCardSaid : Prop := Claim7.holds Tryz.pinned (.plain (OpenSpec.upto scopeNodesSpec)) scopeNodesUptoCard

/-- THE SECOND FORM's CARD OF 'synchronylaw10.ScopeFresh'. -/
def scopeFreshUptoCard : Claim7 := { stood := { row := scopeFreshUptoRow, standIns := [], harness := (true, "d751b228062792c25efd24a7f43c9b990f5b0ffd2ef28c347ac8acc5d960c19f"), looks := true }, kinds := [], alts := [], laidByText := true, laidKinds := [.data, .data, .data], laidTests := true, laidLooks := .later }
def ScopeFreshUptoCardSaid : Prop := Claim7.holds Tryz.pinned (.plain (OpenSpec.upto scopeFreshSpec)) scopeFreshUptoCard

/-- THE SECOND FORM's CARD OF 'synchronylaw10.ScopeAccepts'. -/
def scopeAcceptsUptoCard : Claim7 := { stood := { row := scopeAcceptsUptoRow, standIns := [], harness := (true, "d751b228062792c25efd24a7f43c9b990f5b0ffd2ef28c347ac8acc5d960c19f"), looks := true }, kinds := [], alts := [], laidByText := true, laidKinds := [.data, .data, .data], laidTests := true, laidLooks := .later }
def ScopeAcceptsUptoCardSaid : Prop := Claim7.holds Tryz.pinned (.plain (OpenSpec.upto scopeAcceptsSpec)) scopeAcceptsUptoCard

/-- THE SECOND FORM's CARD OF 'synchronylaw10.ScopeEnds'. -/
def scopeEndsUptoCard : Claim7 := { stood := { row := scopeEndsUptoRow, standIns := [], harness := (true, "d751b228062792c25efd24a7f43c9b990f5b0ffd2ef28c347ac8acc5d960c19f"), looks := true }, kinds := [], alts := [], laidByText := true, laidKinds := [.data, .data, .data], laidTests := true, laidLooks := .later }
def ScopeEndsUptoCardSaid : Prop := Claim7.holds Tryz.pinned (.plain (OpenSpec.upto scopeEndsSpec)) scopeEndsUptoCard

/-- THE SECOND FORM's CARD OF 'synchronylaw10.ScopeAdds'. -/
def scopeAddsUptoCard : Claim7 := { stood := { row := scopeAddsUptoRow, standIns := [], harness := (true, "d751b228062792c25efd24a7f43c9b990f5b0ffd2ef28c347ac8acc5d960c19f"), looks := true }, kinds := [], alts := [], laidByText := true, laidKinds := [.data, .data, .data], laidTests := true, laidLooks := .later }
def ScopeAddsUptoCardSaid : Prop := Claim7.holds Tryz.pinned (.plain (OpenSpec.upto scopeAddsSpec)) scopeAddsUptoCard
end Rows
end Go.Proofs.YtljbhgpanekomaaGreatDoor
