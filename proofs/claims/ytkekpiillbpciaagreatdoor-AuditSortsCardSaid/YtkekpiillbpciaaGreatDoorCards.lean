/-
  DERIVED. GIVEN WITH THE SEED: THE CARDS: each row of YtkekpiillbpciaaGreatDoorRows.lean that lists a variable, with what it lists TIED to the program's text (the seventh form; the later family's looks); each row that meets fmt, with fmt's text TOLD by the authors' own Lean function (tested against real Go, not proved from fmt's source: count such statements apart). THE CARD IS WHAT COUNTS. Prove the row's statement (the work); the ties are given (YtkekpiillbpciaaGreatDoorTie.lean); close each card by the builder's one call (the guide's Derived/Test/ToyasCard.lean, 'card_holds'). Laid BY PROGRAM, IN A SANDBOX (cutbox-door.mjs). By AI agents, Wed Nov 11 2026. No macro, syntax, notation, axiom, sorry.
-/
import Derived.Test.YtkekpiillbpciaaGreatDoorRows
import GoSem.ClaimSeven
namespace Go.Proofs.YtkekpiillbpciaaGreatDoor
namespace Rows

/-- THE TIED CARD OF 'texttoolslaw59.AuditSorts'. -/
def auditSortsCard : Claim7 := { stood := { row := auditSortsRow, standIns := [], harness := (true, "2b87542d2e5d98ea9bf3f6c277d90de176f4dbd59b90a2e16c7294c6675b5b79"), looks := true }, kinds := [], alts := [], laidByText := true, laidKinds := [.data, .data, .data, .data, .data, .pinned], laidTests := true, laidLooks := .later }
def AuditSortsCardSaid : Prop := Claim7.holds Tryz.pinned (.plain (OpenSpec.ofChange auditSortsSpec)) auditSortsCard

/-- THE SECOND FORM's CARD OF 'texttoolslaw59.AuditSorts'. -/
def auditSortsUptoCard : Claim7 := { stood := { row := auditSortsUptoRow, standIns := [], harness := (true, "2b87542d2e5d98ea9bf3f6c277d90de176f4dbd59b90a2e16c7294c6675b5b79"), looks := true }, kinds := [], alts := [], laidByText := true, laidKinds := [.data, .data, .data, .data, .data, .pinned], laidTests := true, laidLooks := .later }
def AuditSortsUptoCardSaid : Prop := Claim7.holds Tryz.pinned (.plain (OpenSpec.upto auditSortsSpec)) auditSortsUptoCard
end Rows
end Go.Proofs.YtkekpiillbpciaaGreatDoor
