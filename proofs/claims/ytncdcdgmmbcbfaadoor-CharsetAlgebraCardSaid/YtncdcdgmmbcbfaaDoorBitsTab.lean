/- The library's table of sixty-four numbers, as the rows list it, gives the cells that the walks read. -/
import Derived.Test.YtncdcdgmmbcbfaaDoorRows
import Derived.Test.YtncdcdgmmbcbfaaDoorCharTz
import Derived.WalkKit
import Derived.ProofKit
import Derived.Lib.LaidTab
namespace Go.Proofs.YtncdcdgmmbcbfaaDoor.BitsTab
open Go.ChangeShapes Go.WideShapes Go.ChangeAt Go.RowKit
open CharTz
def nums : List Int := [0, 1, 56, 2, 57, 49, 28, 3, 61, 58, 42, 50, 38, 29, 17, 4, 62, 47, 59, 36, 45, 43, 51, 22, 53, 39, 33, 30, 24, 18, 12, 5, 63, 55, 48, 27, 60, 41, 37, 16, 46, 35, 44, 21, 52, 32, 23, 11, 54, 26, 40, 15, 34, 20, 31, 10, 25, 14, 19, 9, 13, 8, 7, 6]
theorem gTab : Tryd.prog.globalNamed "math/bits.deBruijn64tab" = some 0 := by kernel_rfl
theorem gTabType : (Tryd.prog.globals[0]?).map (·.type) = some 41 := by kernel_rfl
theorem cellsArr : Tryd.prog.cellsOf 41 = 64 := by kernel_rfl
theorem cellsNum : Tryd.prog.cellsOf 5 = 1 := by kernel_rfl
theorem same : ∀ i, i < 64 → nums.getD i 0 = ((Lib.deBruijn64tab.getD i 0 : Nat) : Int) := by decide
theorem held {W : World} (h : laidMetH Tryd.prog [("math/bits.deBruijn64tab", Rows.laid_math_bits_deBruijn64tab)] W) : TzHeld W := by
  have ht : Lib.TabIs Tryd.prog W "math/bits.deBruijn64tab" .u8 nums :=
    Lib.tabIs_of_head (rest := []) gTab gTabType Tryd.underlying41 Tryd.underlying5 cellsNum cellsArr h
  intro i hi
  have hi' : i < 64 := hi
  have hc := ht.cell gTab i (by simpa [nums] using hi')
  rw [hc]
  rw [same i hi']
/-- a world in which the table holds what its initialiser lays -/
noncomputable def laidWorld (os : Os) : World :=
  { World.holding Tryd.prog os ⟨#[], #[], []⟩ with heap := (World.holding Tryd.prog os ⟨#[], #[], []⟩).heap.modify 0 fun
      | .cells _ t frozen => .cells (nums.map (Value.int .u8)).toArray t frozen
      | o => o }
end Go.Proofs.YtncdcdgmmbcbfaaDoor.BitsTab
