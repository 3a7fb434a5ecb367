/- math/bits.TrailingZeros64 returns the place of the lowest bit of a word that is not 0; the library's table must hold its sixty-four numbers. -/
import Derived.Test.YtncdcdgmmbcbfaaDoorProg
import Derived.Test.YtncdcdgmmbcbfaaDoorBase
import Derived.WalkKit
import Derived.Handy
import Derived.WalkLawsBesides
import Derived.Outline
import Derived.Laws.BitsAllLaws
import Derived.Below
import Derived.Shelf.Spec.TrailingZeros
namespace Go.Proofs.YtncdcdgmmbcbfaaDoor.CharTz
open Go Go.RowKit

def TzHeld (w : World) : Prop := TabAt 0 Lib.deBruijn64tab w
theorem TzHeld.lt {w : World} (h : TzHeld w) : 0 < w.heap.size := World.block_lt_of_cell? w _ (h 0 (by decide))
theorem TzHeld.below {w w' : World} (h : TzHeld w) (hb : Below w.heap.size w w') : TzHeld w' := fun i hi => (hb.cell (p := ⟨0, i, none⟩) h.lt).trans (h i hi)
theorem TzHeld.alloc {w : World} (h : TzHeld w) (o : Obj) : TzHeld (w.alloc o) := h.below ((Below.refl _ _).alloc (Nat.le_refl _) o)

set_option maxHeartbeats 1000000 in
theorem core (x k idx : Nat) (w : World) (hx0 : ((x : Int) == 0) = false)
    (key : IntKind.u64.wrap (bits BinOp.and IntKind.u64 (x : Int) (IntKind.u64.wrap (-(x : Int))) * 285870213051353865) / 288230376151711744 = (idx : Int))
    (hi : idx < 64) (hk : k < 64) (hcell : w.cell? ⟨0, idx, none⟩ = some (.int .u8 k)) :
    Calls Tryd.prog 28 #[.int .u64 x] w fun e w' => e = .returned (.int .i64 k) ∧ w = w' := by
  go_enter Tryd.func28, Tryd.ntmps28
  go_wp2_with (simp only [key])
  go_ret
  exact ⟨rfl, rfl⟩

theorem tz_any (x k d : Nat) (w : World) (hk : k < 64) (hx : x = 2 ^ k * (2 * d + 1)) (hlt : x < 18446744073709551616) (hT : TzHeld w) :
    Calls Tryd.prog 28 #[.int .u64 x] w fun e w' => e = .returned (.int .i64 k) ∧ w = w' := by
  have hlow : x &&& (18446744073709551616 - x) = 2 ^ k := by
    subst hx
    exact Lib.and_neg 64 k d hlt
  have hx0 : x ≠ 0 := by
    have := Nat.two_pow_pos k
    have : 0 < 2 ^ k * (2 * d + 1) := Nat.mul_pos this (by omega)
    omega
  obtain ⟨hi, htab⟩ := Lib.deBruijn64_at k hk
  have hcell := hT _ hi
  rw [htab] at hcell
  exact core x k _ w (by simp; omega) (tz64_key x _ hlt hx0 hlow) hi hk hcell
theorem split (x : Nat) (h0 : x ≠ 0) (hlt : x < 18446744073709551616) : ∃ k d, k < 64 ∧ x = 2 ^ k * (2 * d + 1) := by
  obtain ⟨d, hd, hk⟩ := Lib.ctzFrom_spec 64 x (by omega) hlt
  exact ⟨_, d, hk, hd⟩
end Go.Proofs.YtncdcdgmmbcbfaaDoor.CharTz
