/-
  DERIVED. GIVEN WITH THE SEED: THE CARDS: each row of YtncdcdgmmbcbfaaDoorRows.lean that lists a variable, with what it lists TIED to the program's text (the seventh form; the later family's looks); each row that meets fmt, with fmt's text TOLD by the authors' own Lean function (tested against real Go, not proved from fmt's source: count such statements apart). THE CARD IS WHAT COUNTS. Prove the row's statement (the work); the ties are given (YtncdcdgmmbcbfaaDoorTie.lean); close each card by the builder's one call (the guide's Derived/Test/ToyasCard.lean, 'card_holds'). Laid BY PROGRAM, IN A SANDBOX (cutbox-door.mjs). By AI agents, Wed Nov 11 2026. No macro, syntax, notation, axiom, sorry.
-/
import Derived.Test.YtncdcdgmmbcbfaaDoorRows
import GoSem.ClaimSeven
namespace Go.Proofs.YtncdcdgmmbcbfaaDoor
namespace Rows

/-- THE TIED CARD OF 'texttoolslaw04.CharsetOf'. -/
def charsetOfCard : Claim7 := { stood := { row := charsetOfRow, standIns := [], harness := (true, "db89e06725bc6473f5d62f0575d20154aaa031684e29e871e2ddbfa7f35d82ac"), looks := false }, kinds := [], alts := [], laidByText := true, laidKinds := [.data], laidTests := true, laidLooks := .later }
def CharsetOfCardSaid : Prop := Claim7.holds Tryd.pinned (.plain (OpenSpec.ofChange charsetOfSpec)) charsetOfCard

/-- THE TIED CARD OF 'texttoolslaw04.CharsetHas'. -/
def charsetHasCard : Claim7 := { stood := { row := charsetHasRow, standIns := [], harness := (true, "db89e06725bc6473f5d62f0575d20154aaa031684e29e871e2ddbfa7f35d82ac"), looks := false }, kinds := [], alts := [], laidByText := true, laidKinds := [.data], laidTests := true, laidLooks := .later }
def CharsetHasCardSaid : Prop := Claim7.holds Tryd.pinned (.plain (OpenSpec.ofChange charsetHasSpec)) charsetHasCard

/-- THE TIED CARD OF 'texttoolslaw04.CharsetCounts'. -/
def charsetCountsCard : Claim7 := { stood := { row := charsetCountsRow, standIns := [], harness := (true, "db89e06725bc6473f5d62f0575d20154aaa031684e29e871e2ddbfa7f35d82ac"), looks := false }, kinds := [], alts := [], laidByText := true, laidKinds := [.data], laidTests := true, laidLooks := .later }
def CharsetCountsCardSaid : Prop := Claim7.holds Tryd.pinned (.plain (OpenSpec.ofChange charsetCountsSpec)) charsetCountsCard

/-- THE TIED CARD OF 'texttoolslaw04.CharsetCombines'. -/
def charsetCombinesCard : Claim7 := { stood := { row := charsetCombinesRow, standIns := [], harness := (true, "db89e06725bc6473f5d62f0575d20154aaa031684e29e871e2ddbfa7f35d82ac"), looks := false }, kinds := [], alts := [], laidByText := true, laidKinds := [.data], laidTests := true, laidLooks := .later }
def CharsetCombinesCardSaid : Prop := Claim7.holds Tryd.pinned (.plain (OpenSpec.ofChange charsetCombinesSpec)) charsetCombinesCard

/-- THE TIED CARD OF 'texttoolslaw04.CharsetAlgebra'. -/
def charsetAlgebraCard : Claim7 := { stood := { row := charsetAlgebraRow, standIns := [], harness := (true, "db89e06725bc6473f5d62f0575d20154aaa031684e29e871e2ddbfa7f35d82ac"), looks := false }, kinds := [], alts := [], laidByText := true, laidKinds := [.data], laidTests := true, laidLooks := .later }
def CharsetAlgebraCardSaid : Prop := Claim7.holds Tryd.pinned (.plain (OpenSpec.ofChange charsetAlgebraSpec)) charsetAlgebraCard

/-- THE SECOND FORM's CARD OF 'texttoolslaw04.CharsetOf'. -/
def charsetOfUptoCard : Claim7 := { stood := { row := charsetOfUptoRow, standIns := [], harness := (true, "db89e06725bc6473f5d62f0575d20154aaa031684e29e871e2ddbfa7f35d82ac"), looks := false }, kinds := [], alts := [], laidByText := true, laidKinds := [.data], laidTests := true, laidLooks := .later }
def CharsetOfUptoCardSaid : Prop := Claim7.holds Tryd.pinned (.plain (OpenSpec.upto charsetOfSpec)) charsetOfUptoCard

/-- THE SECOND FORM's CARD OF 'texttoolslaw04.CharsetHas'. -/
def charsetHasUptoCard : Claim7 := { stood := { row := charsetHasUptoRow, standIns := [], harness := (true, "db89e06725bc6473f5d62f0575d20154aaa031684e29e871e2ddbfa7f35d82ac"), looks := false }, kinds := [], alts := [], laidByText := true, laidKinds := [.data], laidTests := true, laidLooks := .later }
def CharsetHasUptoCardSaid : Prop := Claim7.holds Tryd.pinned (.plain (OpenSpec.upto charsetHasSpec)) charsetHasUptoCard

/-- THE SECOND FORM's CARD OF 'texttoolslaw04.CharsetCounts'. -/
def charsetCountsUptoCard : Claim7 := { stood := { row := charsetCountsUptoRow, standIns := [], harness := (true, "db89e06725bc6473f5d62f0575d20154aaa031684e29e871e2ddbfa7f35d82ac"), looks := false }, kinds := [], alts := [], laidByText := true, laidKinds := [.data], laidTests := true, laidLooks := .later }
def CharsetCountsUptoCardSaid : Prop := Claim7.holds Tryd.pinned (.plain (OpenSpec.upto charsetCountsSpec)) charsetCountsUptoCard

/-- THE SECOND FORM's CARD OF 'texttoolslaw04.CharsetCombines'. -/
def charsetCombinesUptoCard : Claim7 := { stood := { row := charsetCombinesUptoRow, standIns := [], harness := (true, "db89e06725bc6473f5d62f0575d20154aaa031684e29e871e2ddbfa7f35d82ac"), looks := false }, kinds := [], alts := [], laidByText := true, laidKinds := [.data], laidTests := true, laidLooks := .later }
def CharsetCombinesUptoCardSaid : Prop := Claim7.holds Tryd.pinned (.plain (OpenSpec.upto charsetCombinesSpec)) charsetCombinesUptoCard

/-- THE SECOND FORM's CARD OF 'texttoolslaw04.CharsetAlgebra'. -/
def charsetAlgebraUptoCard : Claim7 := { stood := { row := charsetAlgebraUptoRow, standIns := [], harness := (true, "db89e06725bc6473f5d62f0575d20154aaa031684e29e871e2ddbfa7f35d82ac"), looks := false }, kinds := [], alts := [], laidByText := true, laidKinds := [.data], laidTests := true, laidLooks := .later }
def CharsetAlgebraUptoCardSaid : Prop := Claim7.holds Tryd.pinned (.plain (OpenSpec.upto charsetAlgebraSpec)) charsetAlgebraUptoCard
end Rows
end Go.Proofs.YtncdcdgmmbcbfaaDoor
