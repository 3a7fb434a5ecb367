/- charset.Has and the reference's Has tell whether a byte is in a set. No condition. -/
import Derived.Test.YtncdcdgmmbcbfaaDoorProg
import Derived.Test.YtncdcdgmmbcbfaaDoorBase
import Derived.Test.YtncdcdgmmbcbfaaDoorSetMath
import Derived.WalkKit
import Derived.Handy
import Derived.WalkLawsBesides
import Derived.Outline
import Derived.Laws.BitsAllLaws
import Derived.Below
namespace Go.Proofs.YtncdcdgmmbcbfaaDoor.CharHas
open Go Go.RowKit

theorem cells_at (w : World) (p : Nat → Bool) (t : TypeId) (j : Nat) (hj : j < 4) :
    (w.alloc (.cells #[.int .u64 (Sets.wordOf p 0 : Nat), .int .u64 (Sets.wordOf p 1 : Nat), .int .u64 (Sets.wordOf p 2 : Nat), .int .u64 (Sets.wordOf p 3 : Nat)] t)).cell? ⟨w.heap.size, j, none⟩ = some (.int .u64 (Sets.wordOf p j : Nat)) := by
  have h : j = 0 ∨ j = 1 ∨ j = 2 ∨ j = 3 := by omega
  rcases h with rfl | rfl | rfl | rfl <;> simp [World.cell?, World.alloc, -World.alloc_eq]

theorem bit_test (p : Nat → Bool) (c : Nat) : (bits .and .u64 ((Sets.wordOf p (c / 64) : Int) / 2 ^ (c % 64)) 1 == 1) = p c := by
  have hl := Sets.wordOf_lt p (c / 64)
  have hb := Sets.testBit_wordOf p (c / 64) (c % 64)
  rw [show 64 * (c / 64) + c % 64 = c from by omega] at hb
  have hlt : c % 64 < 64 := by omega
  simp only [hlt, decide_true, Bool.true_and] at hb
  rw [← hb, Nat.testBit_eq_decide_div_mod_eq]
  have e1 : ((Sets.wordOf p (c / 64) : Int) / 2 ^ (c % 64)) = ((Sets.wordOf p (c / 64) / 2 ^ (c % 64) : Nat) : Int) := by
    rw [Int.natCast_ediv, Int.natCast_pow]; rfl
  have hx : Sets.wordOf p (c / 64) / 2 ^ (c % 64) < 18446744073709551616 := Nat.lt_of_le_of_lt (Nat.div_le_self _ _) hl
  have e2 := u64_and_nat (Sets.wordOf p (c / 64) / 2 ^ (c % 64)) 1 hx (by decide)
  rw [e1, show (1 : Int) = ((1 : Nat) : Int) from rfl, e2, show (1 : Nat) = 2 ^ 1 - 1 from rfl, Nat.and_two_pow_sub_one_eq_mod]
  rw [Bool.eq_iff_iff, beq_iff_eq, decide_eq_true_iff]
  omega
set_option maxHeartbeats 400000 in
theorem has_any (p : Nat → Bool) (c : Nat) (w : World) (hc : c < 256) :
    Calls Tryd.prog 13 #[.agg #[.int .u64 (Sets.wordOf p 0 : Nat), .int .u64 (Sets.wordOf p 1 : Nat), .int .u64 (Sets.wordOf p 2 : Nat), .int .u64 (Sets.wordOf p 3 : Nat)], .int .u8 (c : Int)] w fun e w' => e = .returned (.bool (p c)) ∧ Below w.heap.size w w' := by
  have h1 := cells_at w p 26 (c / 64) (by omega)
  have hl := Sets.wordOf_lt p (c / 64)
  have hj : c / 64 < 4 := by omega
  have hq := bit_test p c
  go_enter Tryd.func13, Tryd.ntmps13
  go_wp2
  go_ret
  exact ⟨rfl, (Below.refl _ _).alloc (Nat.le_refl _) _⟩

set_option maxHeartbeats 400000 in
theorem refHas_any (p : Nat → Bool) (c : Nat) (w : World) (hc : c < 256) :
    Calls Tryd.prog 14 #[.agg #[.int .u64 (Sets.wordOf p 0 : Nat), .int .u64 (Sets.wordOf p 1 : Nat), .int .u64 (Sets.wordOf p 2 : Nat), .int .u64 (Sets.wordOf p 3 : Nat)], .int .u8 (c : Int)] w fun e w' => e = .returned (.bool (p c)) ∧ Below w.heap.size w w' := by
  have h1 := cells_at w p 26 (c / 64) (by omega)
  have hl := Sets.wordOf_lt p (c / 64)
  have hj : c / 64 < 4 := by omega
  have hq := bit_test p c
  go_enter Tryd.func14, Tryd.ntmps14
  go_wp2
  go_ret
  exact ⟨rfl, (Below.refl _ _).alloc (Nat.le_refl _) _⟩
end Go.Proofs.YtncdcdgmmbcbfaaDoor.CharHas
