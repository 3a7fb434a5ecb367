/-
  DERIVED. GIVEN WITH THE SEED: THE CARDS: each row of YtfgfphodpghgbaaDoorRows.lean that lists a variable, with what it lists TIED to the program's text (the seventh form; the later family's looks); each row that meets fmt, with fmt's text TOLD by the authors' own Lean function (tested against real Go, not proved from fmt's source: count such statements apart). THE CARD IS WHAT COUNTS. Prove the row's statement (the work); the ties are given (YtfgfphodpghgbaaDoorTie.lean); close each card by the builder's one call (the guide's Derived/Test/ToyasCard.lean, 'card_holds'). Laid BY PROGRAM, IN A SANDBOX (cutbox-door.mjs). By AI agents, Wed Nov 11 2026. No macro, syntax, notation, axiom, sorry.
-/
import Derived.Test.YtfgfphodpghgbaaDoorRows
import GoSem.ClaimSeven
namespace Go.Proofs.YtfgfphodpghgbaaDoor
namespace Rows

/-- THE TIED CARD OF 'texttoolslaw17.FrameCrcs'. -/
def frameCrcsCard : Claim7 := { stood := { row := frameCrcsRow, standIns := [], harness := (true, "4ecefa514da92c32b17690628137c122288e3b39fa612bb26d853dbc2105c490"), looks := false }, kinds := [], alts := [], laidByText := true, laidKinds := [.data], laidTests := true, laidLooks := .later }
def FrameCrcsCardSaid : Prop := Claim7.holds Tryd.pinned (.plain (OpenSpec.ofChange frameCrcsSpec)) frameCrcsCard

/-- THE TIED CARD OF 'texttoolslaw17.FrameRecords'. -/
def frameRecordsCard : Claim7 := { stood := { row := frameRecordsRow, standIns := [], harness := (true, "4ecefa514da92c32b17690628137c122288e3b39fa612bb26d853dbc2105c490"), looks := false }, kinds := [], alts := [], laidByText := true, laidKinds := [.data], laidTests := true, laidLooks := .later }
def FrameRecordsCardSaid : Prop := Claim7.holds Tryd.pinned (.plain (OpenSpec.ofChange frameRecordsSpec)) frameRecordsCard

/-- THE TIED CARD OF 'texttoolslaw17.FrameNexts'. -/
def frameNextsCard : Claim7 := { stood := { row := frameNextsRow, standIns := [], harness := (true, "4ecefa514da92c32b17690628137c122288e3b39fa612bb26d853dbc2105c490"), looks := false }, kinds := [], alts := [], laidByText := true, laidKinds := [.data], laidTests := true, laidLooks := .later }
def FrameNextsCardSaid : Prop := Claim7.holds Tryd.pinned (.plain (OpenSpec.ofChange frameNextsSpec)) frameNextsCard

/-- THE TIED CARD OF 'texttoolslaw17.FrameDetects'. -/
def frameDetectsCard : Claim7 := { stood := { row := frameDetectsRow, standIns := [], harness := (true, "4ecefa514da92c32b17690628137c122288e3b39fa612bb26d853dbc2105c490"), looks := false }, kinds := [], alts := [], laidByText := true, laidKinds := [.data], laidTests := true, laidLooks := .later }
def FrameDetectsCardSaid : Prop := Claim7.holds Tryd.pinned (.plain (OpenSpec.ofChange frameDetectsSpec)) frameDetectsCard

/-- THE TIED CARD OF 'texttoolslaw17.FrameDecodes'. -/
def frameDecodesCard : Claim7 := { stood := { row := frameDecodesRow, standIns := [], harness := (true, "4ecefa514da92c32b17690628137c122288e3b39fa612bb26d853dbc2105c490"), looks := false }, kinds := [], alts := [], laidByText := true, laidKinds := [.data], laidTests := true, laidLooks := .later }
def FrameDecodesCardSaid : Prop := Claim7.holds Tryd.pinned (.plain (OpenSpec.ofChange frameDecodesSpec)) frameDecodesCard

/-- THE TIED CARD OF 'texttoolslaw04.CharsetOf'. -/
def charsetOfCard : Claim7 := { stood := { row := charsetOfRow, standIns := [], harness := (true, "4ecefa514da92c32b17690628137c122288e3b39fa612bb26d853dbc2105c490"), looks := false }, kinds := [], alts := [], laidByText := true, laidKinds := [.data], laidTests := true, laidLooks := .later }
def CharsetOfCardSaid : Prop := Claim7.holds Tryd.pinned (.plain (OpenSpec.ofChange charsetOfSpec)) charsetOfCard

/-- THE TIED CARD OF 'texttoolslaw04.CharsetHas'. -/
def charsetHasCard : Claim7 := { stood := { row := charsetHasRow, standIns := [], harness := (true, "4ecefa514da92c32b17690628137c122288e3b39fa612bb26d853dbc2105c490"), looks := false }, kinds := [], alts := [], laidByText := true, laidKinds := [.data], laidTests := true, laidLooks := .later }
def CharsetHasCardSaid : Prop := Claim7.holds Tryd.pinned (.plain (OpenSpec.ofChange charsetHasSpec)) charsetHasCard

/-- THE TIED CARD OF 'texttoolslaw17.FrameReturns'. -/
def frameReturnsCard : Claim7 := { stood := { row := frameReturnsRow, standIns := [], harness := (true, "4ecefa514da92c32b17690628137c122288e3b39fa612bb26d853dbc2105c490"), looks := false }, kinds := [], alts := [], laidByText := true, laidKinds := [.data], laidTests := true, laidLooks := .later }
def FrameReturnsCardSaid : Prop := Claim7.holds Tryd.pinned (.plain (OpenSpec.ofChange frameReturnsSpec)) frameReturnsCard

/-- THE TIED CARD OF 'texttoolslaw17.FrameCuts'. -/
def frameCutsCard : Claim7 := { stood := { row := frameCutsRow, standIns := [], harness := (true, "4ecefa514da92c32b17690628137c122288e3b39fa612bb26d853dbc2105c490"), looks := false }, kinds := [], alts := [], laidByText := true, laidKinds := [.data], laidTests := true, laidLooks := .later }
def FrameCutsCardSaid : Prop := Claim7.holds Tryd.pinned (.plain (OpenSpec.ofChange frameCutsSpec)) frameCutsCard

/-- THE TIED CARD OF 'texttoolslaw17.FrameFollows'. -/
def frameFollowsCard : Claim7 := { stood := { row := frameFollowsRow, standIns := [], harness := (true, "4ecefa514da92c32b17690628137c122288e3b39fa612bb26d853dbc2105c490"), looks := false }, kinds := [], alts := [], laidByText := true, laidKinds := [.data], laidTests := true, laidLooks := .later }
def FrameFollowsCardSaid : Prop := Claim7.holds Tryd.pinned (.plain (OpenSpec.ofChange frameFollowsSpec)) frameFollowsCard

/-- THE TIED CARD OF 'texttoolslaw04.CharsetCounts'. -/
def charsetCountsCard : Claim7 := { stood := { row := charsetCountsRow, standIns := [], harness := (true, "4ecefa514da92c32b17690628137c122288e3b39fa612bb26d853dbc2105c490"), looks := false }, kinds := [], alts := [], laidByText := true, laidKinds := [.data], laidTests := true, laidLooks := .later }
def CharsetCountsCardSaid : Prop := Claim7.holds Tryd.pinned (.plain (OpenSpec.ofChange charsetCountsSpec)) charsetCountsCard

/-- THE TIED CARD OF 'texttoolslaw04.CharsetCombines'. -/
def charsetCombinesCard : Claim7 := { stood := { row := charsetCombinesRow, standIns := [], harness := (true, "4ecefa514da92c32b17690628137c122288e3b39fa612bb26d853dbc2105c490"), looks := false }, kinds := [], alts := [], laidByText := true, laidKinds := [.data], laidTests := true, laidLooks := .later }
def CharsetCombinesCardSaid : Prop := Claim7.holds Tryd.pinned (.plain (OpenSpec.ofChange charsetCombinesSpec)) charsetCombinesCard

/-- THE SECOND FORM's CARD OF 'texttoolslaw17.FrameCrcs'. -/
def frameCrcsUptoCard : Claim7 := { stood := { row := frameCrcsUptoRow, standIns := [], harness := (true, "4ecefa514da92c32b17690628137c122288e3b39fa612bb26d853dbc2105c490"), looks := false }, kinds := [], alts := [], laidByText := true, laidKinds := [.data], laidTests := true, laidLooks := .later }
def FrameCrcsUptoCardSaid : Prop := Claim7.holds Tryd.pinned (.plain (OpenSpec.upto frameCrcsSpec)) frameCrcsUptoCard

/-- THE SECOND FORM's CARD OF 'texttoolslaw17.FrameRecords'. -/
def frameRecordsUptoCard : Claim7 := { stood := { row := frameRecordsUptoRow, standIns := [], harness := (true, "4ecefa514da92c32b17690628137c122288e3b39fa612bb26d853dbc2105c490"), looks := false }, kinds := [], alts := [], laidByText := true, laidKinds := [.data], laidTests := true, laidLooks := .later }
def FrameRecordsUptoCardSaid : Prop := Claim7.holds Tryd.pinned (.plain (OpenSpec.upto frameRecordsSpec)) frameRecordsUptoCard

/-- THE SECOND FORM's CARD OF 'texttoolslaw17.FrameNexts'. -/
def frameNextsUptoCard : Claim7 := { stood := { row := frameNextsUptoRow, standIns := [], harness := (true, "4ecefa514da92c32b17690628137c122288e3b39fa612bb26d853dbc2105c490"), looks := false }, kinds := [], alts := [], laidByText := true, laidKinds := [.data], laidTests := true, laidLooks := .later }
def FrameNextsUptoCardSaid : Prop := Claim7.holds Tryd.pinned (.plain (OpenSpec.upto frameNextsSpec)) frameNextsUptoCard

/-- THE SECOND FORM's CARD OF 'texttoolslaw17.FrameDetects'. -/
def frameDetectsUptoCard : Claim7 := { stood := { row := frameDetectsUptoRow, standIns := [], harness := (true, "4ecefa514da92c32b17690628137c122288e3b39fa612bb26d853dbc2105c490"), looks := false }, kinds := [], alts := [], laidByText := true, laidKinds := [.data], laidTests := true, laidLooks := .later }
def FrameDetectsUptoCardSaid : Prop := Claim7.holds Tryd.pinned (.plain (OpenSpec.upto frameDetectsSpec)) frameDetectsUptoCard

/-- THE SECOND FORM's CARD OF 'texttoolslaw17.FrameDecodes'. -/
def frameDecodesUptoCard : Claim7 := { stood := { row := frameDecodesUptoRow, standIns := [], harness := (true, "4ecefa514da92c32b17690628137c122288e3b39fa612bb26d853dbc2105c490"), looks := false }, kinds := [], alts := [], laidByText := true, laidKinds := [.data], laidTests := true, laidLooks := .later }
def FrameDecodesUptoCardSaid : Prop := Claim7.holds Tryd.pinned (.plain (OpenSpec.upto frameDecodesSpec)) frameDecodesUptoCard

/-- THE SECOND FORM's CARD OF 'texttoolslaw04.CharsetOf'. -/
def charsetOfUptoCard : Claim7 := { stood := { row := charsetOfUptoRow, standIns := [], harness := (true, "4ecefa514da92c32b17690628137c122288e3b39fa612bb26d853dbc2105c490"), looks := false }, kinds := [], alts := [], laidByText := true, laidKinds := [.data], laidTests := true, laidLooks := .later }
def CharsetOfUptoCardSaid : Prop := Claim7.holds Tryd.pinned (.plain (OpenSpec.upto charsetOfSpec)) charsetOfUptoCard

/-- THE SECOND FORM's CARD OF 'texttoolslaw04.CharsetHas'. -/
def charsetHasUptoCard : Claim7 := { stood := { row := charsetHasUptoRow, standIns := [], harness := (true, "4ecefa514da92c32b17690628137c122288e3b39fa612bb26d853dbc2105c490"), looks := false }, kinds := [], alts := [], laidByText := true, laidKinds := [.data], laidTests := true, laidLooks := .later }
def CharsetHasUptoCardSaid : Prop := Claim7.holds Tryd.pinned (.plain (OpenSpec.upto charsetHasSpec)) charsetHasUptoCard

/-- THE SECOND FORM's CARD OF 'texttoolslaw17.FrameReturns'. -/
def frameReturnsUptoCard : Claim7 := { stood := { row := frameReturnsUptoRow, standIns := [], harness := (true, "4ecefa514da92c32b17690628137c122288e3b39fa612bb26d853dbc2105c490"), looks := false }, kinds := [], alts := [], laidByText := true, laidKinds := [.data], laidTests := true, laidLooks := .later }
def FrameReturnsUptoCardSaid : Prop := Claim7.holds Tryd.pinned (.plain (OpenSpec.upto frameReturnsSpec)) frameReturnsUptoCard

/-- THE SECOND FORM's CARD OF 'texttoolslaw17.FrameCuts'. -/
def frameCutsUptoCard : Claim7 := { stood := { row := frameCutsUptoRow, standIns := [], harness := (true, "4ecefa514da92c32b17690628137c122288e3b39fa612bb26d853dbc2105c490"), looks := false }, kinds := [], alts := [], laidByText := true, laidKinds := [.data], laidTests := true, laidLooks := .later }
def FrameCutsUptoCardSaid : Prop := Claim7.holds Tryd.pinned (.plain (OpenSpec.upto frameCutsSpec)) frameCutsUptoCard

/-- THE SECOND FORM's CARD OF 'texttoolslaw17.FrameFollows'. -/
def frameFollowsUptoCard : Claim7 := { stood := { row := frameFollowsUptoRow, standIns := [], harness := (true, "4ecefa514da92c32b17690628137c122288e3b39fa612bb26d853dbc2105c490"), looks := false }, kinds := [], alts := [], laidByText := true, laidKinds := [.data], laidTests := true, laidLooks := .later }
def FrameFollowsUptoCardSaid : Prop := Claim7.holds Tryd.pinned (.plain (OpenSpec.upto frameFollowsSpec)) frameFollowsUptoCard

/-- THE SECOND FORM's CARD OF 'texttoolslaw04.CharsetCounts'. -/
def charsetCountsUptoCard : Claim7 := { stood := { row := charsetCountsUptoRow, standIns := [], harness := (true, "4ecefa514da92c32b17690628137c122288e3b39fa612bb26d853dbc2105c490"), looks := false }, kinds := [], alts := [], laidByText := true, laidKinds := [.data], laidTests := true, laidLooks := .later }
def CharsetCountsUptoCardSaid : Prop := Claim7.holds Tryd.pinned (.plain (OpenSpec.upto charsetCountsSpec)) charsetCountsUptoCard

/-- THE SECOND FORM's CARD OF 'texttoolslaw04.CharsetCombines'. -/
def charsetCombinesUptoCard : Claim7 := { stood := { row := charsetCombinesUptoRow, standIns := [], harness := (true, "4ecefa514da92c32b17690628137c122288e3b39fa612bb26d853dbc2105c490"), looks := false }, kinds := [], alts := [], laidByText := true, laidKinds := [.data], laidTests := true, laidLooks := .later }
def CharsetCombinesUptoCardSaid : Prop := Claim7.holds Tryd.pinned (.plain (OpenSpec.upto charsetCombinesSpec)) charsetCombinesUptoCard
end Rows
end Go.Proofs.YtfgfphodpghgbaaDoor
