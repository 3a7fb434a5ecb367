/- The walks of FrameCrcs, FrameRecords and FrameNexts: each returns true; the table must hold its sixteen numbers. -/
import Derived.Test.YtfgfphodpghgbaaDoorFrameAwake
import Derived.Test.YtfgfphodpghgbaaDoorFrameRefNext
namespace Go.Proofs.YtfgfphodpghgbaaDoor.FrameWalks
open Go.RowKit FrameCrc FrameRec FrameNext FrameRefNext FrameAwake

set_option maxHeartbeats 400000 in
theorem crcs (s : ByteArray) (w : World) (hs : s.size ≤ maxLen) (ht : TabHeld w) :
    Calls Tryd.prog 3 #[.string s] w fun e w' => e = .returned (.bool true) ∧ Below w.heap.size w w' := by
  go_enter Tryd.func3, Tryd.ntmps3
  go_wp2_with (first
    | (go_at_call 15; refine (crc_any _ _ hs ht).mono ?_; rintro e w' ⟨rfl, rfl⟩)
    | (go_at_call 16; refine (refCrc_any _ _ hs).mono ?_; rintro e w' ⟨rfl, rfl⟩)
    | (go_at_call 17; refine (awake_any _ ht).mono ?_; rintro e w1 ⟨rfl, hb⟩))
  go_ret
  exact ⟨rfl, hb⟩

set_option maxHeartbeats 400000 in
theorem records (s : ByteArray) (w : World) (hs : s.size ≤ maxLen) (ht : TabHeld w) :
    Calls Tryd.prog 4 #[.string s] w fun e w' => e = .returned (.bool true) ∧ Below w.heap.size w w' := by
  go_enter Tryd.func4, Tryd.ntmps4
  go_wp2_with (go_at_call 18; refine (record_any _ _ hs ht).mono ?_; rintro e w1 ⟨rfl, hb1⟩)
  go_wp2_with (go_at_call 19; refine (refRecord_any _ _ hs).mono ?_; rintro e w2 ⟨rfl, hb2⟩)
  have ht2 := (ht.below hb1).below hb2
  go_wp2_with (go_at_call 17; refine (awake_any _ ht2).mono ?_; rintro e w3 ⟨rfl, hb3⟩)
  go_ret
  exact ⟨rfl, hb1.trans ((hb2.mono hb1.size).trans (hb3.mono (Nat.le_trans hb1.size hb2.size)))⟩

set_option maxHeartbeats 400000 in
theorem nexts (s : ByteArray) (i : Int) (w : World) (hs : s.size ≤ maxLen) (ht : TabHeld w) :
    Calls Tryd.prog 5 #[.string s, .int .i64 i] w fun e w' => e = .returned (.bool true) ∧ Below w.heap.size w w' := by
  go_enter Tryd.func5, Tryd.ntmps5
  go_wp2_with (go_at_call 20; refine (next_open _ _ _ hs ht).mono ?_; rintro e w1 ⟨rfl, hb1⟩)
  go_wp2_with (go_at_call 21; refine (refNext_open _ _ _ hs).mono ?_; rintro e w2 ⟨rfl, hb2⟩)
  have ht2 := (ht.below hb1).below hb2
  go_wp2_with (go_at_call 17; refine (awake_any _ ht2).mono ?_; rintro e w3 ⟨rfl, hb3⟩)
  go_ret
  exact ⟨rfl, hb1.trans ((hb2.mono hb1.size).trans (hb3.mono (Nat.le_trans hb1.size hb2.size)))⟩
end Go.Proofs.YtfgfphodpghgbaaDoor.FrameWalks
