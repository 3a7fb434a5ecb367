/- The examples of the chapter hold: awake returns true; the table must hold its sixteen numbers. -/
import Derived.Test.YtfgfphodpghgbaaDoorFrameNext
namespace Go.Proofs.YtfgfphodpghgbaaDoor.FrameAwake
open Go.RowKit FrameCrc FrameRec FrameNext

theorem rec_a (w : World) (ht : TabHeld w) : Calls Tryd.prog 18 #[.string ⟨#[97]⟩] w fun e w' => e = .returned (.tuple #[.string ⟨#[0, 1, 97, 157, 185, 239, 220]⟩, .int .i64 0]) ∧ Below w.heap.size w w' := by
  refine (record_any ⟨#[97]⟩ w (by decide) ht).mono fun e w' ⟨he, hb⟩ => ⟨?_, hb⟩
  rw [he]
  have e1 : Crc.recStr [97] = [0, 1, 97, 157, 185, 239, 220] := by decide +kernel
  have e2 : Crc.recErr [97] = 0 := by decide +kernel
  show Ending.returned (.tuple #[.string ⟨(Crc.recStr [97]).toArray⟩, .int .i64 (Crc.recErr [97])]) = _
  rw [e1, e2]
theorem next_a (w : World) (ht : TabHeld w) : Calls Tryd.prog 20 #[.string ⟨#[0, 1, 97, 157, 185, 239, 220]⟩, .int .i64 0] w fun e w' => e = .returned (.tuple #[.string ⟨#[97]⟩, .int .i64 7, .int .i64 0]) ∧ Below w.heap.size w w' := by
  refine (next_any ⟨#[0, 1, 97, 157, 185, 239, 220]⟩ 0 w (by decide) ht).mono fun e w' ⟨he, hb⟩ => ⟨?_, hb⟩
  rw [he]
  have e1 : Crc.next [0, 1, 97, 157, 185, 239, 220] 0 = ([97], 7, 0) := by decide +kernel
  exact congrArg Ending.returned (nextV_of e1)
theorem crc_9 (w : World) (ht : TabHeld w) : Calls Tryd.prog 15 #[.string ⟨#[49, 50, 51, 52, 53, 54, 55, 56, 57]⟩] w fun e w' => e = .returned (.int .u32 3421780262) ∧ w = w' := by
  refine (crc_any ⟨#[49, 50, 51, 52, 53, 54, 55, 56, 57]⟩ w (by decide) ht).mono fun e w' ⟨he, hb⟩ => ⟨?_, hb⟩
  rw [he]
  have e1 : Crc.crc [49, 50, 51, 52, 53, 54, 55, 56, 57] = 3421780262 := by decide +kernel
  show Ending.returned (.int .u32 (Crc.crc [49, 50, 51, 52, 53, 54, 55, 56, 57] : Nat)) = _
  rw [e1]
  rfl

set_option maxHeartbeats 400000 in
theorem awake_any (w : World) (ht : TabHeld w) : Calls Tryd.prog 17 #[] w fun e w' => e = .returned (.bool true) ∧ Below w.heap.size w w' := by
  go_enter Tryd.func17, Tryd.ntmps17
  go_wp2_with (go_at_call 18; refine (rec_a _ ht).mono ?_; rintro e w1 ⟨rfl, hb1⟩)
  have ht1 := ht.below hb1
  go_wp2_with (go_at_call 20; refine (next_a _ ht1).mono ?_; rintro e w2 ⟨rfl, hb2⟩)
  have ht2 := ht1.below hb2
  go_wp2_with (go_at_call 15; refine (crc_9 _ ht2).mono ?_; rintro e w3 ⟨rfl, rfl⟩)
  go_ret
  exact ⟨rfl, hb1.trans (hb2.mono hb1.size)⟩
end Go.Proofs.YtfgfphodpghgbaaDoor.FrameAwake
