/-
  DERIVED. GIVEN WITH THE SEED: THE CARDS: each row of YtbfjbkndglcabaaDoorRows.lean that lists a variable, with what it lists TIED to the program's text (the seventh form; the later family's looks); each row that meets fmt, with fmt's text TOLD by the authors' own Lean function (tested against real Go, not proved from fmt's source: count such statements apart). THE CARD IS WHAT COUNTS. Prove the row's statement (the work); the ties are given (YtbfjbkndglcabaaDoorTie.lean); close each card by the builder's one call (the guide's Derived/Test/ToyasCard.lean, 'card_holds'). Laid BY PROGRAM, IN A SANDBOX (cutbox-door.mjs). By AI agents, Wed Nov 11 2026. No macro, syntax, notation, axiom, sorry.
-/
import Derived.Test.YtbfjbkndglcabaaDoorRows
import GoSem.ClaimSeven
namespace Go.Proofs.YtbfjbkndglcabaaDoor
namespace Rows

/-- THE TIED CARD OF 'printworkslaw3.TicketCheckMatchesReference'. -/
def ticketCheckMatchesReferenceCard : Claim7 := { stood := { row := ticketCheckMatchesReferenceRow, standIns := [], harness := (true, "94f1e2c13310817a0173b9b29703c039c29d0556e4ac4ae8322d28e37d8f214a"), looks := false }, kinds := [], alts := [], laidByText := true, laidKinds := [.data, .data, .data], laidTests := true, laidLooks := .later }
def TicketCheckMatchesReferenceCardSaid : Prop := Claim7.holds Tryd.pinned (.plain (OpenSpec.ofChange ticketCheckMatchesReferenceSpec)) ticketCheckMatchesReferenceCard

/-- THE TIED CARD OF 'printworkslaw3.TicketValidateMatchesReference'. -/
def ticketValidateMatchesReferenceCard : Claim7 := { stood := { row := ticketValidateMatchesReferenceRow, standIns := [], harness := (true, "94f1e2c13310817a0173b9b29703c039c29d0556e4ac4ae8322d28e37d8f214a"), looks := false }, kinds := [], alts := [], laidByText := true, laidKinds := [.data, .data, .data], laidTests := true, laidLooks := .later }
def TicketValidateMatchesReferenceCardSaid : Prop := Claim7.holds Tryd.pinned (.plain (OpenSpec.ofChange ticketValidateMatchesReferenceSpec)) ticketValidateMatchesReferenceCard

/-- THE TIED CARD OF 'printworkslaw3.TicketStandardSchema'. -/
def ticketStandardSchemaCard : Claim7 := { stood := { row := ticketStandardSchemaRow, standIns := [], harness := (true, "94f1e2c13310817a0173b9b29703c039c29d0556e4ac4ae8322d28e37d8f214a"), looks := false }, kinds := [], alts := [], laidByText := true, laidKinds := [.data, .data, .data], laidTests := true, laidLooks := .later }
def TicketStandardSchemaCardSaid : Prop := Claim7.holds Tryd.pinned (.plain (OpenSpec.ofChange ticketStandardSchemaSpec)) ticketStandardSchemaCard

/-- THE SECOND FORM's CARD OF 'printworkslaw3.TicketCheckMatchesReference'. -/
def ticketCheckMatchesReferenceUptoCard : Claim7 := { stood := { row := ticketCheckMatchesReferenceUptoRow, standIns := [], harness := (true, "94f1e2c13310817a0173b9b29703c039c29d0556e4ac4ae8322d28e37d8f214a"), looks := false }, kinds := [], alts := [], laidByText := true, laidKinds := [.data, .data, .data], laidTests := true, laidLooks := .later }
def TicketCheckMatchesReferenceUptoCardSaid : Prop := Claim7.holds Tryd.pinned (.plain (OpenSpec.upto ticketCheckMatchesReferenceSpec)) ticketCheckMatchesReferenceUptoCard

/-- THE SECOND FORM's CARD OF 'printworkslaw3.TicketValidateMatchesReference'. -/
def ticketValidateMatchesReferenceUptoCard : Claim7 := { stood := { row := ticketValidateMatchesReferenceUptoRow, standIns := [], harness := (true, "94f1e2c13310817a0173b9b29703c039c29d0556e4ac4ae8322d28e37d8f214a"), looks := false }, kinds := [], alts := [], laidByText := true, laidKinds := [.data, .data, .data], laidTests := true, laidLooks := .later }
def TicketValidateMatchesReferenceUptoCardSaid : Prop := Claim7.holds Tryd.pinned (.plain (OpenSpec.upto ticketValidateMatchesReferenceSpec)) ticketValidateMatchesReferenceUptoCard

/-- THE SECOND FORM's CARD OF 'printworkslaw3.TicketStandardSchema'. -/
def ticketStandardSchemaUptoCard : Claim7 := { stood := { row := ticketStandardSchemaUptoRow, standIns := [], harness := (true, "94f1e2c13310817a0173b9b29703c039c29d0556e4ac4ae8322d28e37d8f214a"), looks := false }, kinds := [], alts := [], laidByText := true, laidKinds := [.data, .data, .data], laidTests := true, laidLooks := .later }
def TicketStandardSchemaUptoCardSaid : Prop := Claim7.holds Tryd.pinned (.plain (OpenSpec.upto ticketStandardSchemaSpec)) ticketStandardSchemaUptoCard
end Rows
end Go.Proofs.YtbfjbkndglcabaaDoor
