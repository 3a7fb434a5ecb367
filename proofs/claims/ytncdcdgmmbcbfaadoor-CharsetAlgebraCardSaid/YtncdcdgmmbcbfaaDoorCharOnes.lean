/- math/bits.OnesCount64 returns the number of set bits of a word. No condition. -/
import Derived.Test.YtncdcdgmmbcbfaaDoorProg
import Derived.Test.YtncdcdgmmbcbfaaDoorBase
import Derived.Test.YtncdcdgmmbcbfaaDoorPopMath
import Derived.WalkKit
import Derived.Handy
import Derived.WalkLawsBesides
import Derived.Outline
import Derived.Laws.BitsAllLaws
import Derived.Laws.Bits64b
import Derived.Laws.Bits128
import Derived.Below
namespace Go.Proofs.YtncdcdgmmbcbfaaDoor.CharOnes
open Go Go.RowKit

theorem and64 (a : Nat) (b : Int) (c : Nat) (hb : b = (c : Int)) (ha : a < 18446744073709551616) (hc : c < 18446744073709551616) : bits BinOp.and IntKind.u64 (a : Int) b = ((a &&& c : Nat) : Int) := by
  subst hb
  exact u64_and_nat a c ha hc
theorem wrap64 (n : Nat) (z : Int) (h : z = (n : Int)) (hn : n < 18446744073709551616) : IntKind.u64.wrap z = (n : Int) := by
  subst h
  rw [IntKind.wrap_u64]; omega
theorem mk85 : Sets.mk 85 8 = 6148914691236517205 := by decide
theorem mk51 : Sets.mk 51 8 = 3689348814741910323 := by decide
theorem mk15 : Sets.mk 15 8 = 1085102592571150095 := by decide
theorem sums (a y0 y1 y2 y3 y4 y5 y6 y7 : Nat) (h0 : y0 ≤ 8) (h1 : y1 ≤ 8) (h2 : y2 ≤ 8) (h3 : y3 ≤ 8) (h4 : y4 ≤ 8) (h5 : y5 ≤ 8) (h6 : y6 ≤ 8) (h7 : y7 ≤ 8)
    (ha : a = y0 + 256 * (y1 + 256 * (y2 + 256 * (y3 + 256 * (y4 + 256 * (y5 + 256 * (y6 + 256 * y7))))))) :
    ((a + a / 256) + (a + a / 256) / 65536 + ((a + a / 256) + (a + a / 256) / 65536) / 4294967296) % 128 = y0 + y1 + y2 + y3 + y4 + y5 + y6 + y7 := by
  have e1 : a / 256 = y1 + 256 * (y2 + 256 * (y3 + 256 * (y4 + 256 * (y5 + 256 * (y6 + 256 * y7))))) := by omega
  have e2 : a + a / 256 = (y0 + y1) + 256 * ((y1 + y2) + 256 * ((y2 + y3) + 256 * ((y3 + y4) + 256 * ((y4 + y5) + 256 * ((y5 + y6) + 256 * ((y6 + y7) + 256 * y7)))))) := by omega
  clear ha e1
  generalize a + a / 256 = b at *
  have e3 : b / 65536 = (y2 + y3) + 256 * ((y3 + y4) + 256 * ((y4 + y5) + 256 * ((y5 + y6) + 256 * ((y6 + y7) + 256 * y7)))) := by omega
  have e4 : b + b / 65536 = (y0 + y1 + y2 + y3) + 256 * ((y1 + y2 + y3 + y4) + 256 * ((y2 + y3 + y4 + y5) + 256 * ((y3 + y4 + y5 + y6) + 256 * ((y4 + y5 + y6 + y7) + 256 * ((y5 + y6 + y7) + 256 * ((y6 + y7) + 256 * y7)))))) := by omega
  clear e2 e3
  generalize b + b / 65536 = c at *
  have e5 : c / 4294967296 = (y4 + y5 + y6 + y7) + 256 * ((y5 + y6 + y7) + 256 * ((y6 + y7) + 256 * y7)) := by omega
  omega
theorem low7 (f n : Nat) (hs : (f + f / 4294967296) % 128 = n) (hf : f + f / 4294967296 < 9223372036854775808) : bits BinOp.and IntKind.i64 (RowKit.wrap64 ((f : Int) + (f : Int) / 4294967296)) 127 = (n : Int) := by
  rw [i64_and127, show (f : Int) + (f : Int) / 4294967296 = ((f + f / 4294967296 : Nat) : Int) from by omega]
  generalize f + f / 4294967296 = g at *
  have : RowKit.wrap64 (g : Int) = (g : Int) := by unfold RowKit.wrap64; omega
  rw [this]
  omega
set_option maxHeartbeats 1000000 in
theorem ones_any (x : Nat) (w : World) (hx : x < 18446744073709551616) :
    Calls Tryd.prog 29 #[.int .u64 (x : Int)] w fun e w' => e = .returned (.int .i64 (Sets.pop 64 x : Nat)) ∧ w = w' := by
  have s1 := Sets.side x
  have s3 := Sets.side3 _ x s1
  clear s1
  rw [mk85, mk51, mk15] at s3
  have g1 : (x / 2 &&& 6148914691236517205) + (x &&& 6148914691236517205) ≤ 12297829382473034410 := by
    have := @Nat.and_le_right (x / 2) 6148914691236517205
    have := @Nat.and_le_right x 6148914691236517205
    omega
  have q1 : IntKind.u64.wrap (bits BinOp.and IntKind.u64 ((x : Int) / 2) 6148914691236517205 + bits BinOp.and IntKind.u64 (x : Int) 6148914691236517205) = (((x / 2 &&& 6148914691236517205) + (x &&& 6148914691236517205) : Nat) : Int) :=
    wrap64 _ _ (by rw [show ((x : Int) / 2) = ((x / 2 : Nat) : Int) from by omega, and64 (x / 2) 6148914691236517205 6148914691236517205 rfl (by omega) (by decide), and64 x 6148914691236517205 6148914691236517205 rfl hx (by decide)]; rfl) (by omega)
  generalize (x / 2 &&& 6148914691236517205) + (x &&& 6148914691236517205) = a at *
  have g2 : (a / 4 &&& 3689348814741910323) + (a &&& 3689348814741910323) ≤ 7378697629483820646 := by
    have := @Nat.and_le_right (a / 4) 3689348814741910323
    have := @Nat.and_le_right a 3689348814741910323
    omega
  have q2 : IntKind.u64.wrap (bits BinOp.and IntKind.u64 ((a : Int) / 4) 3689348814741910323 + bits BinOp.and IntKind.u64 (a : Int) 3689348814741910323) = (((a / 4 &&& 3689348814741910323) + (a &&& 3689348814741910323) : Nat) : Int) :=
    wrap64 _ _ (by rw [show ((a : Int) / 4) = ((a / 4 : Nat) : Int) from by omega, and64 (a / 4) 3689348814741910323 3689348814741910323 rfl (by omega) (by decide), and64 a 3689348814741910323 3689348814741910323 rfl (by omega) (by decide)]; rfl) (by omega)
  generalize (a / 4 &&& 3689348814741910323) + (a &&& 3689348814741910323) = b at *
  have q3 : bits BinOp.and IntKind.u64 ((b : Int) / 16 + (b : Int)) 1085102592571150095 = ((b / 16 + b &&& 1085102592571150095 : Nat) : Int) := by
    rw [show (b : Int) / 16 + (b : Int) = ((b / 16 + b : Nat) : Int) from by omega]
    exact and64 _ _ 1085102592571150095 rfl (by omega) (by decide)
  have g3 : b / 16 + b &&& 1085102592571150095 ≤ 1085102592571150095 := Nat.and_le_right
  rw [s3] at q3 g3
  clear s3
  obtain ⟨y0, y1, y2, y3, y4, y5, y6, y7, h0, h1, h2, h3, h4, h5, h6, h7, hp, hc⟩ := Sets.total_bytes x
  have hs := sums _ _ _ _ _ _ _ _ _ h0 h1 h2 h3 h4 h5 h6 h7 hc
  rw [← hp] at hs
  clear h0 h1 h2 h3 h4 h5 h6 h7 hp hc
  generalize Sets.bs (Sets.pop 8) 8 x = c at *
  have q4 : IntKind.u64.wrap ((c : Int) + (c : Int) / 256) = ((c + c / 256 : Nat) : Int) := wrap64 _ _ (by omega) (by omega)
  generalize hd : c + c / 256 = d at *
  have q5 : IntKind.u64.wrap ((d : Int) + (d : Int) / 65536) = ((d + d / 65536 : Nat) : Int) := wrap64 _ _ (by omega) (by omega)
  generalize hf : d + d / 65536 = f at *
  have q6 : IntKind.u64.wrap ((f : Int) + (f : Int) / 4294967296) = ((f + f / 4294967296 : Nat) : Int) := wrap64 _ _ (by omega) (by omega)
  have q7 := low7 f (Sets.pop 64 x) hs (by omega)
  clear hs hd hf
  go_enter Tryd.func29, Tryd.ntmps29
  go_wp2
  go_ret
  exact ⟨rfl, rfl⟩
end Go.Proofs.YtncdcdgmmbcbfaaDoor.CharOnes
