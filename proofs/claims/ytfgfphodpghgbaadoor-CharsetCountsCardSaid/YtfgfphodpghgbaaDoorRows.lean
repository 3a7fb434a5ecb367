/-
  NARROWER THAN 'FOR EVERY INPUT', by the rows' own cells (each row's printed sentence says how): FrameCrcs: laid · FrameRecords: laid · FrameNexts: laid · FrameDetects: laid · FrameDecodes: laid · CharsetOf: laid · CharsetHas: laid · FrameReturns: laid · FrameCuts: laid · FrameFollows: laid · CharsetCounts: laid · CharsetCombines: laid.
  DERIVED. THE GIVEN ROWS OF THIS SEAT. 12 by the template 'for every input the law returns true; each argument reads behind the call as it read before'; 0 by the template 'total and deterministic' (their statements: YtfgfphodpghgbaaDoorTotals.lean).
  GIVEN WITH THE SEED: the statements are not yours to turn. If you find one false, say at which input.
  Laid BY PROGRAM, IN A SANDBOX (cutbox-rows.mjs): the forced cells as the released guide's own fill.sh prints them over the translation 1d600c79a20aa2f6… (all of the seat's roots in one cut). By AI agents, Wed Nov 11 2026. No macro, syntax, notation, axiom, sorry.
-/
import Derived.Test.YtfgfphodpghgbaaDoorChecked
import GoSem.Claim
import GoSem.ClaimJoined
import GoSem.ClaimMapViews
import Derived.JoinedTies
import Derived.KernelRfl
namespace Go.Proofs.YtfgfphodpghgbaaDoor
/- THE CELL 'sum', in the pinned program and in every row, IS THE sha256 OF THE DUMP (.gsa) THAT YtfgfphodpghgbaaDoorProg.lean LOADS. Nothing in Lean hashes anything: it is a label: what it is worth is what the hold of that sum in a sandbox is worth. -/
noncomputable def Tryd.pinned : Pinned := { name := "ytfgfphodpghgbaadoor", sum := "1d600c79a20aa2f69b2b3291cc47a3e58b927312ce23b5baa2eceaecb1087521", checked := Tryd.checked }
namespace Rows
def none {H : Type} : Left H := { results := [], args := [] }

/- WHAT THE LISTED PACKAGE-LEVEL VARIABLES READ AS WHEN THE CALL BEGINS. Each datum BY PROGRAM (the guide's laid-datum.mjs) off the statement by which the dump's own 'gosem.cut.vars' lays the variable. In a bare row this is a premise. The card (YtfgfphodpghgbaaDoorCards.lean) ties it to the program's text. -/
def laid_texttools_frame_table {H : Type} : DataW H := .agg [.lit (.int .u32 0), .lit (.int .u32 498536548), .lit (.int .u32 997073096), .lit (.int .u32 651767980), .lit (.int .u32 1994146192), .lit (.int .u32 1802195444), .lit (.int .u32 1303535960), .lit (.int .u32 1342533948), .lit (.int .u32 3988292384), .lit (.int .u32 4027552580), .lit (.int .u32 3604390888), .lit (.int .u32 3412177804), .lit (.int .u32 2607071920), .lit (.int .u32 2262029012), .lit (.int .u32 2685067896), .lit (.int .u32 3183342108)]
def laid_math_bits_deBruijn64tab {H : Type} : DataW H := .agg [.lit (.int .u8 0), .lit (.int .u8 1), .lit (.int .u8 56), .lit (.int .u8 2), .lit (.int .u8 57), .lit (.int .u8 49), .lit (.int .u8 28), .lit (.int .u8 3), .lit (.int .u8 61), .lit (.int .u8 58), .lit (.int .u8 42), .lit (.int .u8 50), .lit (.int .u8 38), .lit (.int .u8 29), .lit (.int .u8 17), .lit (.int .u8 4), .lit (.int .u8 62), .lit (.int .u8 47), .lit (.int .u8 59), .lit (.int .u8 36), .lit (.int .u8 45), .lit (.int .u8 43), .lit (.int .u8 51), .lit (.int .u8 22), .lit (.int .u8 53), .lit (.int .u8 39), .lit (.int .u8 33), .lit (.int .u8 30), .lit (.int .u8 24), .lit (.int .u8 18), .lit (.int .u8 12), .lit (.int .u8 5), .lit (.int .u8 63), .lit (.int .u8 55), .lit (.int .u8 48), .lit (.int .u8 27), .lit (.int .u8 60), .lit (.int .u8 41), .lit (.int .u8 37), .lit (.int .u8 16), .lit (.int .u8 46), .lit (.int .u8 35), .lit (.int .u8 44), .lit (.int .u8 21), .lit (.int .u8 52), .lit (.int .u8 32), .lit (.int .u8 23), .lit (.int .u8 11), .lit (.int .u8 54), .lit (.int .u8 26), .lit (.int .u8 40), .lit (.int .u8 15), .lit (.int .u8 34), .lit (.int .u8 20), .lit (.int .u8 31), .lit (.int .u8 10), .lit (.int .u8 25), .lit (.int .u8 14), .lit (.int .u8 19), .lit (.int .u8 9), .lit (.int .u8 13), .lit (.int .u8 8), .lit (.int .u8 7), .lit (.int .u8 6)]

/-- 'texttoolslaw17.FrameCrcs': WHATEVER THE INPUT: true; the input reads as it did. -/
def frameCrcsSpec : ChangeSpec := { name := "frameCrcs", fn := fun _ => fun
  | [d] => { results := [.lit (.bool true)], args := [d] }
  | _ => none }
def frameCrcsRow : OpenClaim := { program := "ytfgfphodpghgbaadoor", sum := "1d600c79a20aa2f69b2b3291cc47a3e58b927312ce23b5baa2eceaecb1087521", func := "texttools/texttoolslaw17.FrameCrcs", spec := "frameCrcs", named := ["texttools/frame.table"], apart := false, laid := [("texttools/frame.table", laid_texttools_frame_table)] }
def FrameCrcsSaid : Prop := frameCrcsRow.holds Tryd.pinned (OpenSpec.ofChange frameCrcsSpec)

/-- ITS FALSE NEIGHBOUR: 'it returns false'. Refute it at one input. -/
def frameCrcsWrong : ChangeSpec := { name := "frameCrcs", fn := fun _ => fun
  | [d] => { results := [.lit (.bool false)], args := [d] }
  | _ => none }
def FrameCrcsWrongFalsely : Prop := frameCrcsRow.holds Tryd.pinned (OpenSpec.ofChange frameCrcsWrong)

/-- 'texttoolslaw17.FrameRecords': WHATEVER THE INPUT: true; the input reads as it did. -/
def frameRecordsSpec : ChangeSpec := { name := "frameRecords", fn := fun _ => fun
  | [d] => { results := [.lit (.bool true)], args := [d] }
  | _ => none }
def frameRecordsRow : OpenClaim := { program := "ytfgfphodpghgbaadoor", sum := "1d600c79a20aa2f69b2b3291cc47a3e58b927312ce23b5baa2eceaecb1087521", func := "texttools/texttoolslaw17.FrameRecords", spec := "frameRecords", named := ["texttools/frame.table"], apart := false, laid := [("texttools/frame.table", laid_texttools_frame_table)] }
def FrameRecordsSaid : Prop := frameRecordsRow.holds Tryd.pinned (OpenSpec.ofChange frameRecordsSpec)

/-- ITS FALSE NEIGHBOUR: 'it returns false'. Refute it at one input. -/
def frameRecordsWrong : ChangeSpec := { name := "frameRecords", fn := fun _ => fun
  | [d] => { results := [.lit (.bool false)], args := [d] }
  | _ => none }
def FrameRecordsWrongFalsely : Prop := frameRecordsRow.holds Tryd.pinned (OpenSpec.ofChange frameRecordsWrong)

/-- 'texttoolslaw17.FrameNexts': WHATEVER THE INPUT: true; the input reads as it did. -/
def frameNextsSpec : ChangeSpec := { name := "frameNexts", fn := fun _ => fun
  | [d1, d2] => { results := [.lit (.bool true)], args := [d1, d2] }
  | _ => none }
def frameNextsRow : OpenClaim := { program := "ytfgfphodpghgbaadoor", sum := "1d600c79a20aa2f69b2b3291cc47a3e58b927312ce23b5baa2eceaecb1087521", func := "texttools/texttoolslaw17.FrameNexts", spec := "frameNexts", named := ["texttools/frame.table"], apart := false, laid := [("texttools/frame.table", laid_texttools_frame_table)] }
def FrameNextsSaid : Prop := frameNextsRow.holds Tryd.pinned (OpenSpec.ofChange frameNextsSpec)

/-- ITS FALSE NEIGHBOUR: 'it returns false'. Refute it at one input. -/
def frameNextsWrong : ChangeSpec := { name := "frameNexts", fn := fun _ => fun
  | [d1, d2] => { results := [.lit (.bool false)], args := [d1, d2] }
  | _ => none }
def FrameNextsWrongFalsely : Prop := frameNextsRow.holds Tryd.pinned (OpenSpec.ofChange frameNextsWrong)

/-- 'texttoolslaw17.FrameDetects': WHATEVER THE INPUT: true; the input reads as it did. -/
def frameDetectsSpec : ChangeSpec := { name := "frameDetects", fn := fun _ => fun
  | [d1, d2] => { results := [.lit (.bool true)], args := [d1, d2] }
  | _ => none }
def frameDetectsRow : OpenClaim := { program := "ytfgfphodpghgbaadoor", sum := "1d600c79a20aa2f69b2b3291cc47a3e58b927312ce23b5baa2eceaecb1087521", func := "texttools/texttoolslaw17.FrameDetects", spec := "frameDetects", named := ["texttools/frame.table"], apart := false, laid := [("texttools/frame.table", laid_texttools_frame_table)] }
def FrameDetectsSaid : Prop := frameDetectsRow.holds Tryd.pinned (OpenSpec.ofChange frameDetectsSpec)

/-- ITS FALSE NEIGHBOUR: 'it returns false'. Refute it at one input. -/
def frameDetectsWrong : ChangeSpec := { name := "frameDetects", fn := fun _ => fun
  | [d1, d2] => { results := [.lit (.bool false)], args := [d1, d2] }
  | _ => none }
def FrameDetectsWrongFalsely : Prop := frameDetectsRow.holds Tryd.pinned (OpenSpec.ofChange frameDetectsWrong)

/-- 'texttoolslaw17.FrameDecodes': WHATEVER THE INPUT: true; the input reads as it did. -/
def frameDecodesSpec : ChangeSpec := { name := "frameDecodes", fn := fun _ => fun
  | [d] => { results := [.lit (.bool true)], args := [d] }
  | _ => none }
def frameDecodesRow : OpenClaim := { program := "ytfgfphodpghgbaadoor", sum := "1d600c79a20aa2f69b2b3291cc47a3e58b927312ce23b5baa2eceaecb1087521", func := "texttools/texttoolslaw17.FrameDecodes", spec := "frameDecodes", named := ["texttools/frame.table"], apart := false, laid := [("texttools/frame.table", laid_texttools_frame_table)] }
def FrameDecodesSaid : Prop := frameDecodesRow.holds Tryd.pinned (OpenSpec.ofChange frameDecodesSpec)

/-- ITS FALSE NEIGHBOUR: 'it returns false'. Refute it at one input. -/
def frameDecodesWrong : ChangeSpec := { name := "frameDecodes", fn := fun _ => fun
  | [d] => { results := [.lit (.bool false)], args := [d] }
  | _ => none }
def FrameDecodesWrongFalsely : Prop := frameDecodesRow.holds Tryd.pinned (OpenSpec.ofChange frameDecodesWrong)

/-- 'texttoolslaw04.CharsetOf': WHATEVER THE INPUT: true; the input reads as it did. -/
def charsetOfSpec : ChangeSpec := { name := "charsetOf", fn := fun _ => fun
  | [d1, d2, d3] => { results := [.lit (.bool true)], args := [d1, d2, d3] }
  | _ => none }
def charsetOfRow : OpenClaim := { program := "ytfgfphodpghgbaadoor", sum := "1d600c79a20aa2f69b2b3291cc47a3e58b927312ce23b5baa2eceaecb1087521", func := "texttools/texttoolslaw04.CharsetOf", spec := "charsetOf", named := ["math/bits.deBruijn64tab"], apart := false, laid := [("math/bits.deBruijn64tab", laid_math_bits_deBruijn64tab)] }
def CharsetOfSaid : Prop := charsetOfRow.holds Tryd.pinned (OpenSpec.ofChange charsetOfSpec)

/-- ITS FALSE NEIGHBOUR: 'it returns false'. Refute it at one input. -/
def charsetOfWrong : ChangeSpec := { name := "charsetOf", fn := fun _ => fun
  | [d1, d2, d3] => { results := [.lit (.bool false)], args := [d1, d2, d3] }
  | _ => none }
def CharsetOfWrongFalsely : Prop := charsetOfRow.holds Tryd.pinned (OpenSpec.ofChange charsetOfWrong)

/-- 'texttoolslaw04.CharsetHas': WHATEVER THE INPUT: true; the input reads as it did. -/
def charsetHasSpec : ChangeSpec := { name := "charsetHas", fn := fun _ => fun
  | [d1, d2] => { results := [.lit (.bool true)], args := [d1, d2] }
  | _ => none }
def charsetHasRow : OpenClaim := { program := "ytfgfphodpghgbaadoor", sum := "1d600c79a20aa2f69b2b3291cc47a3e58b927312ce23b5baa2eceaecb1087521", func := "texttools/texttoolslaw04.CharsetHas", spec := "charsetHas", named := ["math/bits.deBruijn64tab"], apart := false, laid := [("math/bits.deBruijn64tab", laid_math_bits_deBruijn64tab)] }
def CharsetHasSaid : Prop := charsetHasRow.holds Tryd.pinned (OpenSpec.ofChange charsetHasSpec)

/-- ITS FALSE NEIGHBOUR: 'it returns false'. Refute it at one input. -/
def charsetHasWrong : ChangeSpec := { name := "charsetHas", fn := fun _ => fun
  | [d1, d2] => { results := [.lit (.bool false)], args := [d1, d2] }
  | _ => none }
def CharsetHasWrongFalsely : Prop := charsetHasRow.holds Tryd.pinned (OpenSpec.ofChange charsetHasWrong)

/-- 'texttoolslaw17.FrameReturns': WHATEVER THE INPUT: true; the input reads as it did. -/
def frameReturnsSpec : ChangeSpec := { name := "frameReturns", fn := fun _ => fun
  | [d] => { results := [.lit (.bool true)], args := [d] }
  | _ => none }
def frameReturnsRow : OpenClaim := { program := "ytfgfphodpghgbaadoor", sum := "1d600c79a20aa2f69b2b3291cc47a3e58b927312ce23b5baa2eceaecb1087521", func := "texttools/texttoolslaw17.FrameReturns", spec := "frameReturns", inPlace := ["internal/abi.NoEscape"], named := ["texttools/frame.table"], apart := false, laid := [("texttools/frame.table", laid_texttools_frame_table)] }
def FrameReturnsSaid : Prop := frameReturnsRow.holds Tryd.pinned (OpenSpec.ofChange frameReturnsSpec)

/-- ITS FALSE NEIGHBOUR: 'it returns false'. Refute it at one input. -/
def frameReturnsWrong : ChangeSpec := { name := "frameReturns", fn := fun _ => fun
  | [d] => { results := [.lit (.bool false)], args := [d] }
  | _ => none }
def FrameReturnsWrongFalsely : Prop := frameReturnsRow.holds Tryd.pinned (OpenSpec.ofChange frameReturnsWrong)

/-- 'texttoolslaw17.FrameCuts': WHATEVER THE INPUT: true; the input reads as it did. -/
def frameCutsSpec : ChangeSpec := { name := "frameCuts", fn := fun _ => fun
  | [d1, d2] => { results := [.lit (.bool true)], args := [d1, d2] }
  | _ => none }
def frameCutsRow : OpenClaim := { program := "ytfgfphodpghgbaadoor", sum := "1d600c79a20aa2f69b2b3291cc47a3e58b927312ce23b5baa2eceaecb1087521", func := "texttools/texttoolslaw17.FrameCuts", spec := "frameCuts", inPlace := ["internal/abi.NoEscape"], named := ["texttools/frame.table"], apart := false, laid := [("texttools/frame.table", laid_texttools_frame_table)] }
def FrameCutsSaid : Prop := frameCutsRow.holds Tryd.pinned (OpenSpec.ofChange frameCutsSpec)

/-- ITS FALSE NEIGHBOUR: 'it returns false'. Refute it at one input. -/
def frameCutsWrong : ChangeSpec := { name := "frameCuts", fn := fun _ => fun
  | [d1, d2] => { results := [.lit (.bool false)], args := [d1, d2] }
  | _ => none }
def FrameCutsWrongFalsely : Prop := frameCutsRow.holds Tryd.pinned (OpenSpec.ofChange frameCutsWrong)

/-- 'texttoolslaw17.FrameFollows': WHATEVER THE INPUT: true; the input reads as it did. -/
def frameFollowsSpec : ChangeSpec := { name := "frameFollows", fn := fun _ => fun
  | [d1, d2] => { results := [.lit (.bool true)], args := [d1, d2] }
  | _ => none }
def frameFollowsRow : OpenClaim := { program := "ytfgfphodpghgbaadoor", sum := "1d600c79a20aa2f69b2b3291cc47a3e58b927312ce23b5baa2eceaecb1087521", func := "texttools/texttoolslaw17.FrameFollows", spec := "frameFollows", inPlace := ["internal/abi.NoEscape"], named := ["texttools/frame.table"], apart := false, laid := [("texttools/frame.table", laid_texttools_frame_table)] }
def FrameFollowsSaid : Prop := frameFollowsRow.holds Tryd.pinned (OpenSpec.ofChange frameFollowsSpec)

/-- ITS FALSE NEIGHBOUR: 'it returns false'. Refute it at one input. -/
def frameFollowsWrong : ChangeSpec := { name := "frameFollows", fn := fun _ => fun
  | [d1, d2] => { results := [.lit (.bool false)], args := [d1, d2] }
  | _ => none }
def FrameFollowsWrongFalsely : Prop := frameFollowsRow.holds Tryd.pinned (OpenSpec.ofChange frameFollowsWrong)

/-- 'texttoolslaw04.CharsetCounts': WHATEVER THE INPUT: true; the input reads as it did. -/
def charsetCountsSpec : ChangeSpec := { name := "charsetCounts", fn := fun _ => fun
  | [d1, d2] => { results := [.lit (.bool true)], args := [d1, d2] }
  | _ => none }
def charsetCountsRow : OpenClaim := { program := "ytfgfphodpghgbaadoor", sum := "1d600c79a20aa2f69b2b3291cc47a3e58b927312ce23b5baa2eceaecb1087521", func := "texttools/texttoolslaw04.CharsetCounts", spec := "charsetCounts", named := ["math/bits.deBruijn64tab"], apart := false, laid := [("math/bits.deBruijn64tab", laid_math_bits_deBruijn64tab)] }
def CharsetCountsSaid : Prop := charsetCountsRow.holds Tryd.pinned (OpenSpec.ofChange charsetCountsSpec)

/-- ITS FALSE NEIGHBOUR: 'it returns false'. Refute it at one input. -/
def charsetCountsWrong : ChangeSpec := { name := "charsetCounts", fn := fun _ => fun
  | [d1, d2] => { results := [.lit (.bool false)], args := [d1, d2] }
  | _ => none }
def CharsetCountsWrongFalsely : Prop := charsetCountsRow.holds Tryd.pinned (OpenSpec.ofChange charsetCountsWrong)

/-- 'texttoolslaw04.CharsetCombines': WHATEVER THE INPUT: true; the input reads as it did. -/
def charsetCombinesSpec : ChangeSpec := { name := "charsetCombines", fn := fun _ => fun
  | [d1, d2] => { results := [.lit (.bool true)], args := [d1, d2] }
  | _ => none }
def charsetCombinesRow : OpenClaim := { program := "ytfgfphodpghgbaadoor", sum := "1d600c79a20aa2f69b2b3291cc47a3e58b927312ce23b5baa2eceaecb1087521", func := "texttools/texttoolslaw04.CharsetCombines", spec := "charsetCombines", named := ["math/bits.deBruijn64tab"], apart := false, laid := [("math/bits.deBruijn64tab", laid_math_bits_deBruijn64tab)] }
def CharsetCombinesSaid : Prop := charsetCombinesRow.holds Tryd.pinned (OpenSpec.ofChange charsetCombinesSpec)

/-- ITS FALSE NEIGHBOUR: 'it returns false'. Refute it at one input. -/
def charsetCombinesWrong : ChangeSpec := { name := "charsetCombines", fn := fun _ => fun
  | [d1, d2] => { results := [.lit (.bool false)], args := [d1, d2] }
  | _ => none }
def CharsetCombinesWrongFalsely : Prop := charsetCombinesRow.holds Tryd.pinned (OpenSpec.ofChange charsetCombinesWrong)

/- THE SECOND FORM. 'bulk': how many values and letters a reading holds, each counted each time it is reached (what is shared counts as often as it is met; a slice's spare places count too). A statement '..UptoSaid' is the law's where the arguments, and the package variables that the reading takes, are together of bulk at most 1048576: NARROWER than '..Said'. Prove '..Said' where nothing that the law and all that it calls make is longer than what came in: it says more and counts as full. Else prove '..UptoSaid'. A law counts once. -/
mutual
def uptoBulk {H : Type} : DataW H → Nat
  | .lit (.string bytes) => bytes.length + 1
  | .lit _ => 1
  | .nil => 1
  | .ptr d => uptoBulk d + 1
  | .slice elems spare => uptoBulkAll elems + uptoBulkAll spare + 1
  | .agg parts => uptoBulkAll parts + 1
  | .iface _ d => uptoBulk d + 1
  | .map entries => uptoBulkEntries entries + 1
  | .held _ => 1
def uptoBulkAll {H : Type} : List (DataW H) → Nat
  | [] => 0
  | d :: r => uptoBulk d + uptoBulkAll r
def uptoBulkEntries {H : Type} : List (Lit × DataW H) → Nat
  | [] => 0
  | x :: r => uptoBulkEntry x + uptoBulkEntries r
def uptoBulkEntry {H : Type} : Lit × DataW H → Nat
  | (.string bytes, d) => bytes.length + uptoBulk d + 1
  | (_, d) => uptoBulk d + 1
 end
def uptoSmall : (H : Type) → List (DataW H) → Bool := fun _ ds => decide (uptoBulkAll ds ≤ 1048576)
def OpenSpec.upto (s : _root_.Go.ChangeSpec) : _root_.Go.OpenSpec := { _root_.Go.OpenSpec.ofChange s with cond := some uptoSmall }

/-- 'texttoolslaw17.FrameCrcs', WHERE WHAT IT READS IS OF BULK AT MOST 1048576: true; the input reads as it did. -/
def frameCrcsUptoRow : OpenClaim := { program := "ytfgfphodpghgbaadoor", sum := "1d600c79a20aa2f69b2b3291cc47a3e58b927312ce23b5baa2eceaecb1087521", func := "texttools/texttoolslaw17.FrameCrcs", spec := "frameCrcs", named := ["texttools/frame.table"], apart := false, laid := [("texttools/frame.table", laid_texttools_frame_table)], narrowed := true }
def FrameCrcsUptoSaid : Prop := frameCrcsUptoRow.holds Tryd.pinned (OpenSpec.upto frameCrcsSpec)

/-- 'texttoolslaw17.FrameRecords', WHERE WHAT IT READS IS OF BULK AT MOST 1048576: true; the input reads as it did. -/
def frameRecordsUptoRow : OpenClaim := { program := "ytfgfphodpghgbaadoor", sum := "1d600c79a20aa2f69b2b3291cc47a3e58b927312ce23b5baa2eceaecb1087521", func := "texttools/texttoolslaw17.FrameRecords", spec := "frameRecords", named := ["texttools/frame.table"], apart := false, laid := [("texttools/frame.table", laid_texttools_frame_table)], narrowed := true }
def FrameRecordsUptoSaid : Prop := frameRecordsUptoRow.holds Tryd.pinned (OpenSpec.upto frameRecordsSpec)

/-- 'texttoolslaw17.FrameNexts', WHERE WHAT IT READS IS OF BULK AT MOST 1048576: true; the input reads as it did. -/
def frameNextsUptoRow : OpenClaim := { program := "ytfgfphodpghgbaadoor", sum := "1d600c79a20aa2f69b2b3291cc47a3e58b927312ce23b5baa2eceaecb1087521", func := "texttools/texttoolslaw17.FrameNexts", spec := "frameNexts", named := ["texttools/frame.table"], apart := false, laid := [("texttools/frame.table", laid_texttools_frame_table)], narrowed := true }
def FrameNextsUptoSaid : Prop := frameNextsUptoRow.holds Tryd.pinned (OpenSpec.upto frameNextsSpec)

/-- 'texttoolslaw17.FrameDetects', WHERE WHAT IT READS IS OF BULK AT MOST 1048576: true; the input reads as it did. -/
def frameDetectsUptoRow : OpenClaim := { program := "ytfgfphodpghgbaadoor", sum := "1d600c79a20aa2f69b2b3291cc47a3e58b927312ce23b5baa2eceaecb1087521", func := "texttools/texttoolslaw17.FrameDetects", spec := "frameDetects", named := ["texttools/frame.table"], apart := false, laid := [("texttools/frame.table", laid_texttools_frame_table)], narrowed := true }
def FrameDetectsUptoSaid : Prop := frameDetectsUptoRow.holds Tryd.pinned (OpenSpec.upto frameDetectsSpec)

/-- 'texttoolslaw17.FrameDecodes', WHERE WHAT IT READS IS OF BULK AT MOST 1048576: true; the input reads as it did. -/
def frameDecodesUptoRow : OpenClaim := { program := "ytfgfphodpghgbaadoor", sum := "1d600c79a20aa2f69b2b3291cc47a3e58b927312ce23b5baa2eceaecb1087521", func := "texttools/texttoolslaw17.FrameDecodes", spec := "frameDecodes", named := ["texttools/frame.table"], apart := false, laid := [("texttools/frame.table", laid_texttools_frame_table)], narrowed := true }
def FrameDecodesUptoSaid : Prop := frameDecodesUptoRow.holds Tryd.pinned (OpenSpec.upto frameDecodesSpec)

/-- 'texttoolslaw04.CharsetOf', WHERE WHAT IT READS IS OF BULK AT MOST 1048576: true; the input reads as it did. -/
def charsetOfUptoRow : OpenClaim := { program := "ytfgfphodpghgbaadoor", sum := "1d600c79a20aa2f69b2b3291cc47a3e58b927312ce23b5baa2eceaecb1087521", func := "texttools/texttoolslaw04.CharsetOf", spec := "charsetOf", named := ["math/bits.deBruijn64tab"], apart := false, laid := [("math/bits.deBruijn64tab", laid_math_bits_deBruijn64tab)], narrowed := true }
def CharsetOfUptoSaid : Prop := charsetOfUptoRow.holds Tryd.pinned (OpenSpec.upto charsetOfSpec)

/-- 'texttoolslaw04.CharsetHas', WHERE WHAT IT READS IS OF BULK AT MOST 1048576: true; the input reads as it did. -/
def charsetHasUptoRow : OpenClaim := { program := "ytfgfphodpghgbaadoor", sum := "1d600c79a20aa2f69b2b3291cc47a3e58b927312ce23b5baa2eceaecb1087521", func := "texttools/texttoolslaw04.CharsetHas", spec := "charsetHas", named := ["math/bits.deBruijn64tab"], apart := false, laid := [("math/bits.deBruijn64tab", laid_math_bits_deBruijn64tab)], narrowed := true }
def CharsetHasUptoSaid : Prop := charsetHasUptoRow.holds Tryd.pinned (OpenSpec.upto charsetHasSpec)

/-- 'texttoolslaw17.FrameReturns', WHERE WHAT IT READS IS OF BULK AT MOST 1048576: true; the input reads as it did. -/
def frameReturnsUptoRow : OpenClaim := { program := "ytfgfphodpghgbaadoor", sum := "1d600c79a20aa2f69b2b3291cc47a3e58b927312ce23b5baa2eceaecb1087521", func := "texttools/texttoolslaw17.FrameReturns", spec := "frameReturns", inPlace := ["internal/abi.NoEscape"], named := ["texttools/frame.table"], apart := false, laid := [("texttools/frame.table", laid_texttools_frame_table)], narrowed := true }
def FrameReturnsUptoSaid : Prop := frameReturnsUptoRow.holds Tryd.pinned (OpenSpec.upto frameReturnsSpec)

/-- 'texttoolslaw17.FrameCuts', WHERE WHAT IT READS IS OF BULK AT MOST 1048576: true; the input reads as it did. -/
def frameCutsUptoRow : OpenClaim := { program := "ytfgfphodpghgbaadoor", sum := "1d600c79a20aa2f69b2b3291cc47a3e58b927312ce23b5baa2eceaecb1087521", func := "texttools/texttoolslaw17.FrameCuts", spec := "frameCuts", inPlace := ["internal/abi.NoEscape"], named := ["texttools/frame.table"], apart := false, laid := [("texttools/frame.table", laid_texttools_frame_table)], narrowed := true }
def FrameCutsUptoSaid : Prop := frameCutsUptoRow.holds Tryd.pinned (OpenSpec.upto frameCutsSpec)

/-- 'texttoolslaw17.FrameFollows', WHERE WHAT IT READS IS OF BULK AT MOST 1048576: true; the input reads as it did. -/
def frameFollowsUptoRow : OpenClaim := { program := "ytfgfphodpghgbaadoor", sum := "1d600c79a20aa2f69b2b3291cc47a3e58b927312ce23b5baa2eceaecb1087521", func := "texttools/texttoolslaw17.FrameFollows", spec := "frameFollows", inPlace := ["internal/abi.NoEscape"], named := ["texttools/frame.table"], apart := false, laid := [("texttools/frame.table", laid_texttools_frame_table)], narrowed := true }
def FrameFollowsUptoSaid : Prop := frameFollowsUptoRow.holds Tryd.pinned (OpenSpec.upto frameFollowsSpec)

/-- 'texttoolslaw04.CharsetCounts', WHERE WHAT IT READS IS OF BULK AT MOST 1048576: true; the input reads as it did. -/
def charsetCountsUptoRow : OpenClaim := { program := "ytfgfphodpghgbaadoor", sum := "1d600c79a20aa2f69b2b3291cc47a3e58b927312ce23b5baa2eceaecb1087521", func := "texttools/texttoolslaw04.CharsetCounts", spec := "charsetCounts", named := ["math/bits.deBruijn64tab"], apart := false, laid := [("math/bits.deBruijn64tab", laid_math_bits_deBruijn64tab)], narrowed := true }
def CharsetCountsUptoSaid : Prop := charsetCountsUptoRow.holds Tryd.pinned (OpenSpec.upto charsetCountsSpec)

/-- 'texttoolslaw04.CharsetCombines', WHERE WHAT IT READS IS OF BULK AT MOST 1048576: true; the input reads as it did. -/
def charsetCombinesUptoRow : OpenClaim := { program := "ytfgfphodpghgbaadoor", sum := "1d600c79a20aa2f69b2b3291cc47a3e58b927312ce23b5baa2eceaecb1087521", func := "texttools/texttoolslaw04.CharsetCombines", spec := "charsetCombines", named := ["math/bits.deBruijn64tab"], apart := false, laid := [("math/bits.deBruijn64tab", laid_math_bits_deBruijn64tab)], narrowed := true }
def CharsetCombinesUptoSaid : Prop := charsetCombinesUptoRow.holds Tryd.pinned (OpenSpec.upto charsetCombinesSpec)

end Rows
end Go.Proofs.YtfgfphodpghgbaaDoor
