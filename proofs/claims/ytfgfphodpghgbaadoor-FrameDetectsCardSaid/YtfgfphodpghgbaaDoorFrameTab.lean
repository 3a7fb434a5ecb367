/- The table of frame, as the rows list it, gives the sixteen cells that the walks read. -/
import Derived.Test.YtfgfphodpghgbaaDoorRows
import Derived.Test.YtfgfphodpghgbaaDoorFrameCrc
import Derived.WalkKit
import Derived.ProofKit
import Derived.Lib.LaidTab
namespace Go.Proofs.YtfgfphodpghgbaaDoor.FrameTab
open Go.ChangeShapes Go.WideShapes Go.ChangeAt Go.RowKit
open FrameCrc
def nums : List Int := [0, 498536548, 997073096, 651767980, 1994146192, 1802195444, 1303535960, 1342533948, 3988292384, 4027552580, 3604390888, 3412177804, 2607071920, 2262029012, 2685067896, 3183342108]
theorem gTab : Tryd.prog.globalNamed "texttools/frame.table" = some 0 := by kernel_rfl
theorem gTabType : (Tryd.prog.globals[0]?).map (·.type) = some 60 := by kernel_rfl
theorem cellsArr : Tryd.prog.cellsOf 60 = 16 := by kernel_rfl
theorem cellsNum : Tryd.prog.cellsOf 22 = 1 := by kernel_rfl
theorem same : ∀ i, i < 16 → nums.getD i 0 = ((Crc.tab.getD i 0 : Nat) : Int) := by decide
theorem held {W : World} (h : laidMetH Tryd.prog [("texttools/frame.table", Rows.laid_texttools_frame_table)] W) : TabHeld W := by
  have ht : Lib.TabIs Tryd.prog W "texttools/frame.table" .u32 nums :=
    Lib.tabIs_of_head (rest := []) gTab gTabType Tryd.underlying60 Tryd.underlying22 cellsNum cellsArr h
  intro i hi
  have hc := ht.cell gTab i (by simpa [nums] using hi)
  rw [hc]
  rw [same i hi]
/-- a world in which the table holds what its initialiser lays -/
noncomputable def laidWorld (os : Os) : World :=
  { World.holding Tryd.prog os ⟨#[], #[], []⟩ with heap := (World.holding Tryd.prog os ⟨#[], #[], []⟩).heap.modify 0 fun
      | .cells _ t frozen => .cells (nums.map (Value.int .u32)).toArray t frozen
      | o => o }
end Go.Proofs.YtfgfphodpghgbaaDoor.FrameTab
