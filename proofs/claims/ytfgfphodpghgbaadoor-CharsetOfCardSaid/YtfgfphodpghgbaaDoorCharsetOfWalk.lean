/- The walk of CharsetOf: it returns true; the library's table must hold its sixty-four numbers. -/
import Derived.Test.YtfgfphodpghgbaaDoorCharAwake
import Derived.Test.YtfgfphodpghgbaaDoorCharEq
import Derived.Test.YtfgfphodpghgbaaDoorQuietly
namespace Go.Proofs.YtfgfphodpghgbaaDoor.CharsetOfWalk
open Go Go.RowKit CharHas CharWith CharOf CharRefOf CharRange CharOps CharTz CharList CharRefList CharRefOps CharAwake CharEq Quietly

set_option maxHeartbeats 2000000 in
set_option maxRecDepth 100000 in
theorem walk (s : ByteArray) (y z : Int) (w : World) (hs : s.size ≤ maxLen) (hy : (Lit.int .u8 y).wf = true) (hz : (Lit.int .u8 z).wf = true) (hT : TzHeld w) :
    Calls Tryd.prog 8 #[.string s, .int .u8 y, .int .u8 z] w fun e w' => e = .returned (.bool true) ∧ Below w.heap.size w w' := by
  obtain ⟨lo, rfl⟩ : ∃ c : Nat, y = (c : Int) := ⟨y.toNat, by have := bounds_u8 hy; omega⟩
  obtain ⟨hi, rfl⟩ : ∃ c : Nat, z = (c : Int) := ⟨z.toNat, by have := bounds_u8 hz; omega⟩
  have hlo : lo < 256 := by have := bounds_u8 hy; omega
  have hhi : hi < 256 := by have := bounds_u8 hz; omega
  clear hy hz
  have heq := eq_same
  by_cases hbig : 300 < s.size
  · go_enter Tryd.func8, Tryd.ntmps8
    go_wp2_with (go_at_call 25
                 refine (awake_any _ hT).mono ?_
                 rintro e w1 ⟨rfl, hb1⟩)
    go_ret
    exact ⟨rfl, hb1⟩
  · go_enter Tryd.func8, Tryd.ntmps8
    go_wp2_with (go_at_call 26
                 refine (of_any s _ hs).mono ?_
                 rintro e w1 ⟨rfl, hb1⟩)
    go_wp2_with (go_at_call 27
                 refine (refOf_any s _ hs).mono ?_
                 rintro e w2 ⟨rfl, hb2⟩
                 have hb02 := hb1.trans (hb2.mono hb1.size)
                 clear hb1 hb2)
    go_wp2_with (go_at_call 28
                 refine (range_any lo hi _ hlo hhi).mono ?_
                 rintro e w3 ⟨rfl, hb3⟩
                 have hb03 := hb02.trans (hb3.mono hb02.size)
                 clear hb02 hb3)
    go_wp2_with (go_at_call 29
                 refine (refRange_any lo hi _ hlo hhi).mono ?_
                 rintro e w4 ⟨rfl, hb4⟩
                 have hb04 := hb03.trans (hb4.mono hb03.size)
                 clear hb03 hb4
                 have hT4 := hT.below hb04)
    go_wp2_with (go_at_call 25
                 refine (awake_any _ hT4).mono ?_
                 rintro e w5 ⟨rfl, hb5⟩
                 have hb05 := hb04.trans (hb5.mono hb04.size)
                 clear hb04 hb5)
    go_ret
    exact ⟨rfl, hb05⟩
end Go.Proofs.YtfgfphodpghgbaaDoor.CharsetOfWalk
