/-
  DERIVED. GIVEN WITH THE SEED: THE CARDS: each row of YtjefcpjciogcjaaGreatDoorRows.lean that lists a variable, with what it lists TIED to the program's text (the seventh form; the later family's looks); each row that meets fmt, with fmt's text TOLD by the authors' own Lean function (tested against real Go, not proved from fmt's source: count such statements apart). THE CARD IS WHAT COUNTS. Prove the row's statement (the work); the ties are given (YtjefcpjciogcjaaGreatDoorTie.lean); close each card by the builder's one call (the guide's Derived/Test/ToyasCard.lean, 'card_holds'). Laid BY PROGRAM, IN A SANDBOX (cutbox-door.mjs). By AI agents, Wed Nov 11 2026. No macro, syntax, notation, axiom, sorry.
-/
import Derived.Test.YtjefcpjciogcjaaGreatDoorRows
import GoSem.ClaimSeven
namespace Go.Proofs.YtjefcpjciogcjaaGreatDoor
namespace Rows

/-- THE TIED CARD OF 'texttoolslaw59.AuditMatches'. -/
def auditMatchesCard : Claim7 := { stood := { row := auditMatchesRow, standIns := [], harness := (true, "6ad1973d44b3c3140b81bbb633dda87b2d4b34b0928b82e9f40c3fda812223fd"), looks := true }, kinds := [], alts := [], laidByText := true, laidKinds := [.data, .data, .data, .data, .data, .pinned], laidTests := true, laidLooks := .later }
def AuditMatchesCardSaid : Prop := Claim7.holds Tryz.pinned (.plain (OpenSpec.ofChange auditMatchesSpec)) auditMatchesCard

/-- THE SECOND FORM's CARD OF 'texttoolslaw59.AuditMatches'. -/
def auditMatchesUptoCard : Claim7 := { stood := { row := auditMatchesUptoRow, standIns := [], harness := (true, "6ad1973d44b3c3140b81bbb633dda87b2d4b34b0928b82e9f40c3fda812223fd"), looks := true }, kinds := [], alts := [], laidByText := true, laidKinds := [.data, .data, .data, .data, .data, .pinned], laidTests := true, laidLooks := .later }
def AuditMatchesUptoCardSaid : Prop := Claim7.holds Tryz.pinned (.plain (OpenSpec.upto auditMatchesSpec)) auditMatchesUptoCard
end Rows
end Go.Proofs.YtjefcpjciogcjaaGreatDoor
