/-
  No cell of these rows narrows 'for every input' (looked for: loops, veiled, ifaces, maps, wideKeys, modest, calm, conditions, laid).
  DERIVED. THE GIVEN ROWS OF THIS SEAT. 6 by the template 'for every input the law returns true; each argument reads behind the call as it read before'; 0 by the template 'total and deterministic' (their statements: YtlnbkljajocfoaaTotals.lean).
  GIVEN WITH THE SEED: the statements are not yours to turn. If you find one false, say at which input.
  Laid BY PROGRAM, IN A SANDBOX (cutbox-rows.mjs): the forced cells as the released guide's own fill.sh prints them over the translation 391c38a9af5041d7… (all of the seat's roots in one cut). By AI agents, Wed Nov 11 2026. No macro, syntax, notation, axiom, sorry.
-/
import Derived.Test.YtlnbkljajocfoaaChecked
import GoSem.Claim
import GoSem.ClaimJoined
import GoSem.ClaimMapViews
import Derived.JoinedTies
import Derived.KernelRfl
namespace Go.Proofs.Ytlnbkljajocfoaa
/- THE CELL 'sum', in the pinned program and in every row, IS THE sha256 OF THE DUMP (.gsa) THAT YtlnbkljajocfoaaProg.lean LOADS. Nothing in Lean hashes anything: it is a label: what it is worth is what the hold of that sum in a sandbox is worth. -/
noncomputable def Try.pinned : Pinned := { name := "ytlnbkljajocfoaa", sum := "391c38a9af5041d71f8c6f515be2ac88f67cac55598e74cbbf50c3d9dc3b2355", checked := Try.checked }
namespace Rows
def none {H : Type} : Left H := { results := [], args := [] }

/-- 'texttoolslaw30.TsortParses': WHATEVER THE INPUT: true; the input reads as it did. -/
def tsortParsesSpec : ChangeSpec := { name := "tsortParses", fn := fun _ => fun
  | [d] => { results := [.lit (.bool true)], args := [d] }
  | _ => none }
def tsortParsesRow : OpenClaim := { program := "ytlnbkljajocfoaa", sum := "391c38a9af5041d71f8c6f515be2ac88f67cac55598e74cbbf50c3d9dc3b2355", func := "texttools/texttoolslaw30.TsortParses", spec := "tsortParses", unfollowed := true, recurses := true, apart := false }
def TsortParsesSaid : Prop := tsortParsesRow.holds Try.pinned (OpenSpec.ofChange tsortParsesSpec)

/-- ITS FALSE NEIGHBOUR: 'it returns false'. Refute it at one input. -/
def tsortParsesWrong : ChangeSpec := { name := "tsortParses", fn := fun _ => fun
  | [d] => { results := [.lit (.bool false)], args := [d] }
  | _ => none }
def TsortParsesWrongFalsely : Prop := tsortParsesRow.holds Try.pinned (OpenSpec.ofChange tsortParsesWrong)

/-- 'texttoolslaw30.TsortSorts': WHATEVER THE INPUT: true; the input reads as it did. -/
def tsortSortsSpec : ChangeSpec := { name := "tsortSorts", fn := fun _ => fun
  | [d] => { results := [.lit (.bool true)], args := [d] }
  | _ => none }
def tsortSortsRow : OpenClaim := { program := "ytlnbkljajocfoaa", sum := "391c38a9af5041d71f8c6f515be2ac88f67cac55598e74cbbf50c3d9dc3b2355", func := "texttools/texttoolslaw30.TsortSorts", spec := "tsortSorts", unfollowed := true, recurses := true, apart := false }
def TsortSortsSaid : Prop := tsortSortsRow.holds Try.pinned (OpenSpec.ofChange tsortSortsSpec)

/-- ITS FALSE NEIGHBOUR: 'it returns false'. Refute it at one input. -/
def tsortSortsWrong : ChangeSpec := { name := "tsortSorts", fn := fun _ => fun
  | [d] => { results := [.lit (.bool false)], args := [d] }
  | _ => none }
def TsortSortsWrongFalsely : Prop := tsortSortsRow.holds Try.pinned (OpenSpec.ofChange tsortSortsWrong)

/-- 'texttoolslaw30.TsortJudges': WHATEVER THE INPUT: true; the input reads as it did. -/
def tsortJudgesSpec : ChangeSpec := { name := "tsortJudges", fn := fun _ => fun
  | [d1, d2] => { results := [.lit (.bool true)], args := [d1, d2] }
  | _ => none }
def tsortJudgesRow : OpenClaim := { program := "ytlnbkljajocfoaa", sum := "391c38a9af5041d71f8c6f515be2ac88f67cac55598e74cbbf50c3d9dc3b2355", func := "texttools/texttoolslaw30.TsortJudges", spec := "tsortJudges", unfollowed := true, recurses := true, apart := false }
def TsortJudgesSaid : Prop := tsortJudgesRow.holds Try.pinned (OpenSpec.ofChange tsortJudgesSpec)

/-- ITS FALSE NEIGHBOUR: 'it returns false'. Refute it at one input. -/
def tsortJudgesWrong : ChangeSpec := { name := "tsortJudges", fn := fun _ => fun
  | [d1, d2] => { results := [.lit (.bool false)], args := [d1, d2] }
  | _ => none }
def TsortJudgesWrongFalsely : Prop := tsortJudgesRow.holds Try.pinned (OpenSpec.ofChange tsortJudgesWrong)

/-- 'texttoolslaw30.TsortOrders': WHATEVER THE INPUT: true; the input reads as it did. -/
def tsortOrdersSpec : ChangeSpec := { name := "tsortOrders", fn := fun _ => fun
  | [d1, d2] => { results := [.lit (.bool true)], args := [d1, d2] }
  | _ => none }
def tsortOrdersRow : OpenClaim := { program := "ytlnbkljajocfoaa", sum := "391c38a9af5041d71f8c6f515be2ac88f67cac55598e74cbbf50c3d9dc3b2355", func := "texttools/texttoolslaw30.TsortOrders", spec := "tsortOrders", unfollowed := true, recurses := true, apart := false }
def TsortOrdersSaid : Prop := tsortOrdersRow.holds Try.pinned (OpenSpec.ofChange tsortOrdersSpec)

/-- ITS FALSE NEIGHBOUR: 'it returns false'. Refute it at one input. -/
def tsortOrdersWrong : ChangeSpec := { name := "tsortOrders", fn := fun _ => fun
  | [d1, d2] => { results := [.lit (.bool false)], args := [d1, d2] }
  | _ => none }
def TsortOrdersWrongFalsely : Prop := tsortOrdersRow.holds Try.pinned (OpenSpec.ofChange tsortOrdersWrong)

/-- 'texttoolslaw30.TsortFirst': WHATEVER THE INPUT: true; the input reads as it did. -/
def tsortFirstSpec : ChangeSpec := { name := "tsortFirst", fn := fun _ => fun
  | [d1, d2] => { results := [.lit (.bool true)], args := [d1, d2] }
  | _ => none }
def tsortFirstRow : OpenClaim := { program := "ytlnbkljajocfoaa", sum := "391c38a9af5041d71f8c6f515be2ac88f67cac55598e74cbbf50c3d9dc3b2355", func := "texttools/texttoolslaw30.TsortFirst", spec := "tsortFirst", unfollowed := true, recurses := true, apart := false }
def TsortFirstSaid : Prop := tsortFirstRow.holds Try.pinned (OpenSpec.ofChange tsortFirstSpec)

/-- ITS FALSE NEIGHBOUR: 'it returns false'. Refute it at one input. -/
def tsortFirstWrong : ChangeSpec := { name := "tsortFirst", fn := fun _ => fun
  | [d1, d2] => { results := [.lit (.bool false)], args := [d1, d2] }
  | _ => none }
def TsortFirstWrongFalsely : Prop := tsortFirstRow.holds Try.pinned (OpenSpec.ofChange tsortFirstWrong)

/-- 'texttoolslaw30.TsortRepeats': WHATEVER THE INPUT: true; the input reads as it did. -/
def tsortRepeatsSpec : ChangeSpec := { name := "tsortRepeats", fn := fun _ => fun
  | [d1, d2] => { results := [.lit (.bool true)], args := [d1, d2] }
  | _ => none }
def tsortRepeatsRow : OpenClaim := { program := "ytlnbkljajocfoaa", sum := "391c38a9af5041d71f8c6f515be2ac88f67cac55598e74cbbf50c3d9dc3b2355", func := "texttools/texttoolslaw30.TsortRepeats", spec := "tsortRepeats", unfollowed := true, recurses := true, apart := false }
def TsortRepeatsSaid : Prop := tsortRepeatsRow.holds Try.pinned (OpenSpec.ofChange tsortRepeatsSpec)

/-- ITS FALSE NEIGHBOUR: 'it returns false'. Refute it at one input. -/
def tsortRepeatsWrong : ChangeSpec := { name := "tsortRepeats", fn := fun _ => fun
  | [d1, d2] => { results := [.lit (.bool false)], args := [d1, d2] }
  | _ => none }
def TsortRepeatsWrongFalsely : Prop := tsortRepeatsRow.holds Try.pinned (OpenSpec.ofChange tsortRepeatsWrong)

/- THE SECOND FORM. 'bulk': how many values and letters a reading holds, each counted each time it is reached (what is shared counts as often as it is met; a slice's spare places count too). A statement '..UptoSaid' is the law's where the arguments, and the package variables that the reading takes, are together of bulk at most 1048576: NARROWER than '..Said'. Prove '..Said' where nothing that the law and all that it calls make is longer than what came in: it says more and counts as full. Else prove '..UptoSaid'. A law counts once. -/
mutual
def uptoBulk {H : Type} : DataW H → Nat
  | .lit (.string bytes) => bytes.length + 1
  | .lit _ => 1
  | .nil => 1
  | .ptr d => uptoBulk d + 1
  | .slice elems spare => uptoBulkAll elems + uptoBulkAll spare + 1
  | .agg parts => uptoBulkAll parts + 1
  | .iface _ d => uptoBulk d + 1
  | .map entries => uptoBulkEntries entries + 1
  | .held _ => 1
def uptoBulkAll {H : Type} : List (DataW H) → Nat
  | [] => 0
  | d :: r => uptoBulk d + uptoBulkAll r
def uptoBulkEntries {H : Type} : List (Lit × DataW H) → Nat
  | [] => 0
  | x :: r => uptoBulkEntry x + uptoBulkEntries r
def uptoBulkEntry {H : Type} : Lit × DataW H → Nat
  | (.string bytes, d) => bytes.length + uptoBulk d + 1
  | (_, d) => uptoBulk d + 1
 end
def uptoSmall : (H : Type) → List (DataW H) → Bool := fun _ ds => decide (uptoBulkAll ds ≤ 1048576)
def OpenSpec.upto (s : _root_.Go.ChangeSpec) : _root_.Go.OpenSpec := { _root_.Go.OpenSpec.ofChange s with cond := some uptoSmall }

/-- 'texttoolslaw30.TsortParses', WHERE WHAT IT READS IS OF BULK AT MOST 1048576: true; the input reads as it did. -/
def tsortParsesUptoRow : OpenClaim := { program := "ytlnbkljajocfoaa", sum := "391c38a9af5041d71f8c6f515be2ac88f67cac55598e74cbbf50c3d9dc3b2355", func := "texttools/texttoolslaw30.TsortParses", spec := "tsortParses", unfollowed := true, recurses := true, apart := false, narrowed := true }
def TsortParsesUptoSaid : Prop := tsortParsesUptoRow.holds Try.pinned (OpenSpec.upto tsortParsesSpec)

/-- 'texttoolslaw30.TsortSorts', WHERE WHAT IT READS IS OF BULK AT MOST 1048576: true; the input reads as it did. -/
def tsortSortsUptoRow : OpenClaim := { program := "ytlnbkljajocfoaa", sum := "391c38a9af5041d71f8c6f515be2ac88f67cac55598e74cbbf50c3d9dc3b2355", func := "texttools/texttoolslaw30.TsortSorts", spec := "tsortSorts", unfollowed := true, recurses := true, apart := false, narrowed := true }
def TsortSortsUptoSaid : Prop := tsortSortsUptoRow.holds Try.pinned (OpenSpec.upto tsortSortsSpec)

/-- 'texttoolslaw30.TsortJudges', WHERE WHAT IT READS IS OF BULK AT MOST 1048576: true; the input reads as it did. -/
def tsortJudgesUptoRow : OpenClaim := { program := "ytlnbkljajocfoaa", sum := "391c38a9af5041d71f8c6f515be2ac88f67cac55598e74cbbf50c3d9dc3b2355", func := "texttools/texttoolslaw30.TsortJudges", spec := "tsortJudges", unfollowed := true, recurses := true, apart := false, narrowed := true }
def TsortJudgesUptoSaid : Prop := tsortJudgesUptoRow.holds Try.pinned (OpenSpec.upto tsortJudgesSpec)

/-- 'texttoolslaw30.TsortOrders', WHERE WHAT IT READS IS OF BULK AT MOST 1048576: true; the input reads as it did. -/
def tsortOrdersUptoRow : OpenClaim := { program := "ytlnbkljajocfoaa", sum := "391c38a9af5041d71f8c6f515be2ac88f67cac55598e74cbbf50c3d9dc3b2355", func := "texttools/texttoolslaw30.TsortOrders", spec := "tsortOrders", unfollowed := true, recurses := true, apart := false, narrowed := true }
def TsortOrdersUptoSaid : Prop := tsortOrdersUptoRow.holds Try.pinned (OpenSpec.upto tsortOrdersSpec)

/-- 'texttoolslaw30.TsortFirst', WHERE WHAT IT READS IS OF BULK AT MOST 1048576: true; the input reads as it did. -/
def tsortFirstUptoRow : OpenClaim := { program := "ytlnbkljajocfoaa", sum := "391c38a9af5041d71f8c6f515be2ac88f67cac55598e74cbbf50c3d9dc3b2355", func := "texttools/texttoolslaw30.TsortFirst", spec := "tsortFirst", unfollowed := true, recurses := true, apart := false, narrowed := true }
def TsortFirstUptoSaid : Prop := tsortFirstUptoRow.holds Try.pinned (OpenSpec.upto tsortFirstSpec)

/-- 'texttoolslaw30.TsortRepeats', WHERE WHAT IT READS IS OF BULK AT MOST 1048576: true; the input reads as it did. -/
def tsortRepeatsUptoRow : OpenClaim := { program := "ytlnbkljajocfoaa", sum := "391c38a9af5041d71f8c6f515be2ac88f67cac55598e74cbbf50c3d9dc3b2355", func := "texttools/texttoolslaw30.TsortRepeats", spec := "tsortRepeats", unfollowed := true, recurses := true, apart := false, narrowed := true }
def TsortRepeatsUptoSaid : Prop := tsortRepeatsUptoRow.holds Try.pinned (OpenSpec.upto tsortRepeatsSpec)

end Rows
end Go.Proofs.Ytlnbkljajocfoaa
