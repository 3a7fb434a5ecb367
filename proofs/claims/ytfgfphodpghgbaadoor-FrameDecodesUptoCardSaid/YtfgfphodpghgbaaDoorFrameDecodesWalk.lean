/- The walk of FrameDecodes: it returns true for every string of at most 2^20 bytes; the table must hold its sixteen numbers. -/
import Derived.Test.YtfgfphodpghgbaaDoorFrameDec
namespace Go.Proofs.YtfgfphodpghgbaaDoor.FrameDecodesWalk
open Go.RowKit FrameCrc FrameRec FrameNext FrameRefNext FrameAwake FrameDec Strs

set_option maxHeartbeats 400000 in
theorem walk (s : ByteArray) (w : World) (_hs : s.size ≤ maxLen) (ht : TabHeld w) (hu : s.size ≤ 1048576) :
    Calls Tryd.prog 7 #[.string s] w fun e w' => e = .returned (.bool true) ∧ Below w.heap.size w w' := by
  go_enter Tryd.func7, Tryd.ntmps7
  go_wp2_with fail
  refine (decode_any s _ (by omega) ht).mono ?_
  rintro e w1 ⟨v1, n1, rfl, hr1, hb1⟩
  go_wp2_with fail
  refine (refDecode_any s _ (by omega)).mono ?_
  rintro e w2 ⟨v2, n2, rfl, hr2, hb2⟩
  have s1 := Strs.of_row (hr1.below hb2)
  have s2 := Strs.of_row hr2
  have ht2 := (ht.below hb1).below hb2
  have hb12 : Below w.heap.size w w2 := hb1.trans (hb2.mono hb1.size)
  go_wp2_with fail
  refine (same_any _ _ _ _ _ s1 s2).mono ?_
  rintro e w3 ⟨rfl, n3, rfl⟩
  have hq : decide ((Crc.decode s.data.toList).1 = (Crc.decode s.data.toList).1) = true := by simp
  go_wp2_with fail
  refine (awake_any _ (ht2.drewN n3)).mono ?_
  rintro e w4 ⟨rfl, hb4⟩
  go_wp2
  go_ret
  exact ⟨rfl, (Base.below_drewN hb12 n3).trans (hb4.mono hb12.size)⟩
end Go.Proofs.YtfgfphodpghgbaaDoor.FrameDecodesWalk
