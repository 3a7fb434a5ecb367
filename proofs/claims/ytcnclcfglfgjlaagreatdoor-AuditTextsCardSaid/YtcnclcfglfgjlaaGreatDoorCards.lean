/-
  DERIVED. GIVEN WITH THE SEED: THE CARDS: each row of YtcnclcfglfgjlaaGreatDoorRows.lean that lists a variable, with what it lists TIED to the program's text (the seventh form; the later family's looks); each row that meets fmt, with fmt's text TOLD by the authors' own Lean function (tested against real Go, not proved from fmt's source: count such statements apart). THE CARD IS WHAT COUNTS. Prove the row's statement (the work); the ties are given (YtcnclcfglfgjlaaGreatDoorTie.lean); close each card by the builder's one call (the guide's Derived/Test/ToyasCard.lean, 'card_holds'). Laid BY PROGRAM, IN A SANDBOX (cutbox-door.mjs). By AI agents, Wed Nov 11 2026. No macro, syntax, notation, axiom, sorry.
-/
import Derived.Test.YtcnclcfglfgjlaaGreatDoorRows
import GoSem.ClaimSeven
namespace Go.Proofs.YtcnclcfglfgjlaaGreatDoor
namespace Rows

/-- THE TIED CARD OF 'texttoolslaw59.AuditMatches'. -/
def auditMatchesCard : Claim7 := { stood := { row := auditMatchesRow, standIns := [], harness := (true, "5839dad2e3d75e612972b09863ca55d61b4072f30e05c6bf936ff2dd0e1eb5d0"), looks := true }, kinds := [], alts := [], laidByText := true, laidKinds := [.data, .data, .data, .data, .data, .pinned], laidTests := true, laidLooks := .later }
def AuditMatchesCardSaid : Prop := Claim7.holds Tryz.pinned (.plain (OpenSpec.ofChange auditMatchesSpec)) auditMatchesCard

/-- THE TIED CARD OF 'texttoolslaw59.AuditSorts'. -/
def auditSortsCard : Claim7 := { stood := { row := auditSortsRow, standIns := [], harness := (true, "5839dad2e3d75e612972b09863ca55d61b4072f30e05c6bf936ff2dd0e1eb5d0"), looks := true }, kinds := [], alts := [], laidByText := true, laidKinds := [.data, .data, .data, .data, .data, .pinned], laidTests := true, laidLooks := .later }
def AuditSortsCardSaid : Prop := Claim7.holds Tryz.pinned (.plain (OpenSpec.ofChange auditSortsSpec)) auditSortsCard

/-- THE TIED CARD OF 'texttoolslaw59.AuditTexts'. -/
def auditTextsCard : Claim7 := { stood := { row := auditTextsRow, standIns := [], harness := (true, "5839dad2e3d75e612972b09863ca55d61b4072f30e05c6bf936ff2dd0e1eb5d0"), looks := true }, kinds := [], alts := [], laidByText := true, laidKinds := [.data, .data, .data, .data, .data, .pinned], laidTests := true, laidLooks := .later }
def AuditTextsCardSaid : Prop := Claim7.holds Tryz.pinned (.plain (OpenSpec.ofChange auditTextsSpec)) auditTextsCard

/-- THE TIED CARD OF 'texttoolslaw59.AuditFinds'. -/
def auditFindsCard : Claim7 := { stood := { row := auditFindsRow, standIns := [], harness := (true, "5839dad2e3d75e612972b09863ca55d61b4072f30e05c6bf936ff2dd0e1eb5d0"), looks := true }, kinds := [], alts := [], laidByText := true, laidKinds := [.data, .data, .data, .data, .data, .pinned], laidTests := true, laidLooks := .later }
def AuditFindsCardSaid : Prop := Claim7.holds Tryz.pinned (.plain (OpenSpec.ofChange auditFindsSpec)) auditFindsCard

/-- THE SECOND FORM's CARD OF 'texttoolslaw59.AuditMatches'. -/
def auditMatchesUptoCard : Claim7 := { stood := { row := auditMatchesUptoRow, standIns := [], harness := (true, "5839dad2e3d75e612972b09863ca55d61b4072f30e05c6bf936ff2dd0e1eb5d0"), looks := true }, kinds := [], alts := [], laidByText := true, laidKinds := [.data, .data, .data, .data, .data, .pinned], laidTests := true, laidLooks := .later }
def AuditMatchesUptoCardSaid : Prop := Claim7.holds Tryz.pinned (.plain (OpenSpec.upto auditMatchesSpec)) auditMatchesUptoCard

/-- THE SECOND FORM's CARD OF 'texttoolslaw59.AuditSorts'. -/
def auditSortsUptoCard : Claim7 := { stood := { row := auditSortsUptoRow, standIns := [], harness := (true, "5839dad2e3d75e612972b09863ca55d61b4072f30e05c6bf936ff2dd0e1eb5d0"), looks := true }, kinds := [], alts := [], laidByText := true, laidKinds := [.data, .data, .data, .data, .data, .pinned], laidTests := true, laidLooks := .later }
def AuditSortsUptoCardSaid : Prop := Claim7.holds Tryz.pinned (.plain (OpenSpec.upto auditSortsSpec)) auditSortsUptoCard

/-- THE SECOND FORM's CARD OF 'texttoolslaw59.AuditTexts'. -/
def auditTextsUptoCard : Claim7 := { stood := { row := auditTextsUptoRow, standIns := [], harness := (true, "5839dad2e3d75e612972b09863ca55d61b4072f30e05c6bf936ff2dd0e1eb5d0"), looks := true }, kinds := [], alts := [], laidByText := true, laidKinds := [.data, .data, .data, .data, .data, .pinned], laidTests := true, laidLooks := .later }
def AuditTextsUptoCardSaid : Prop := Claim7.holds Tryz.pinned (.plain (OpenSpec.upto auditTextsSpec)) auditTextsUptoCard

/-- THE SECOND FORM's CARD OF 'texttoolslaw59.AuditFinds'. -/
def auditFindsUptoCard : Claim7 := { stood := { row := auditFindsUptoRow, standIns := [], harness := (true, "5839dad2e3d75e612972b09863ca55d61b4072f30e05c6bf936ff2dd0e1eb5d0"), looks := true }, kinds := [], alts := [], laidByText := true, laidKinds := [.data, .data, .data, .data, .data, .pinned], laidTests := true, laidLooks := .later }
def AuditFindsUptoCardSaid : Prop := Claim7.holds Tryz.pinned (.plain (OpenSpec.upto auditFindsSpec)) auditFindsUptoCard
end Rows
end Go.Proofs.YtcnclcfglfgjlaaGreatDoor
