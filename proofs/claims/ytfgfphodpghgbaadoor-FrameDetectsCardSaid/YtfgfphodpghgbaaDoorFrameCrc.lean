/- frame.Crc and the reference's Crc return the CRC-32 of any string; the table must hold its sixteen numbers. -/
import Derived.Test.YtfgfphodpghgbaaDoorProg
import Derived.Test.YtfgfphodpghgbaaDoorCrcMath
import Derived.Test.YtfgfphodpghgbaaDoorBase
import Derived.WalkKit
import Derived.Handy
import Derived.Lib.Hide
import Derived.Outline
import Derived.Below
import Derived.Deep.Draws
import Derived.Laws.BitsAllLaws
import Derived.WalkLawsBesides
namespace Go.Proofs.YtfgfphodpghgbaaDoor.FrameCrc
open Go.RowKit
def TabHeld (w : World) : Prop := ∀ i, i < 16 → w.cell? ⟨0, i, none⟩ = some (.int .u32 ((Crc.tab.getD i 0 : Nat) : Int))

theorem TabHeld.lt {w : World} (h : TabHeld w) : 0 < w.heap.size := World.block_lt_of_cell? w _ (h 0 (by decide))
theorem TabHeld.below {w w' : World} (h : TabHeld w) (hb : Below w.heap.size w w') : TabHeld w' := fun i hi => (hb.cell (p := ⟨0, i, none⟩) h.lt).trans (h i hi)
theorem TabHeld.alloc {w : World} (h : TabHeld w) (o : Obj) : TabHeld (w.alloc o) := h.below ((Below.refl _ _).alloc (Nat.le_refl _) o)
theorem TabHeld.drew {w : World} (h : TabHeld w) : TabHeld w.drew := h
theorem TabHeld.drewN {w : World} (h : TabHeld w) (n : Nat) : TabHeld (w.drewN n) := h
theorem and15 (x : Nat) (hx : x < 4294967296) : bits .and .u32 (x : Int) 15 = ((x % 16 : Nat) : Int) := by
  have h := u32_and_nat x 15 hx (by decide)
  rw [show ((15 : Int)) = ((15 : Nat) : Int) from rfl, h, show (15 : Nat) = 2 ^ 4 - 1 from rfl, Nat.and_two_pow_sub_one_eq_mod]
theorem tab_lt : ∀ i, i < 16 → Crc.tab.getD i 0 < 4294967296 := by decide
theorem max_xor (c : Nat) (h : c < 4294967296) : 4294967295 ^^^ c = 4294967295 - c := by
  have e : (BitVec.allOnes 32 ^^^ BitVec.ofNat 32 c) = ~~~(BitVec.ofNat 32 c) := BitVec.allOnes_xor
  have e2 := congrArg BitVec.toNat e
  rw [BitVec.toNat_xor, BitVec.toNat_not, BitVec.toNat_allOnes, BitVec.toNat_ofNat, Nat.mod_eq_of_lt (by simpa using h)] at e2
  simpa using e2
theorem not32 (c : Nat) (h : c < 4294967296) : bits .xor .u32 IntKind.u32.max (c : Int) = ((4294967295 - c : Nat) : Int) := by
  rw [show IntKind.u32.max = ((4294967295 : Nat) : Int) from rfl, u32_xor_nat _ _ (by decide) h, max_xor c h]
/-- one step by the table -/
theorem nib_facts (x : Nat) (hx : x < 4294967296) : ∃ m t y : Nat, m < 16 ∧ t = Crc.tab.getD m 0 ∧ y = Crc.nib x ∧ y < 4294967296 ∧
    bits .and .u32 (x : Int) 15 = (m : Int) ∧ bits .xor .u32 (t : Int) ((x : Int) / 16) = (y : Int) := by
  refine ⟨x % 16, _, Crc.nib x, by omega, rfl, rfl, Crc.nib_lt x hx, and15 x hx, ?_⟩
  have h := u32_xor_nat (Crc.tab.getD (x % 16) 0) (x / 16) (tab_lt _ (by omega)) (by omega)
  rw [show ((x : Int) / 16) = ((x / 16 : Nat) : Int) from by omega, h]
  rfl

set_option maxHeartbeats 400000 in
theorem crc_any (s : ByteArray) (w : World) (hs : s.size ≤ maxLen) (ht : TabHeld w) :
    Calls Tryd.prog 15 #[.string s] w fun e w' => e = .returned (.int .u32 (Crc.crc s.data.toList : Nat)) ∧ w = w' := by
  unfold maxLen at hs
  go_enter Tryd.func15, Tryd.ntmps15
  go_wp2
  go_loop [3, 7] (fun c i => ∃ k : Nat, k ≤ s.size ∧ i = .int .i64 k ∧ c = .int .u32 (Crc.run 4294967295 (s.data.toList.take k) : Nat)) (fun _ i => s.size - (intOf i).toNat)
  case atStart => exact ⟨0, Nat.zero_le _, rfl, rfl⟩
  case round =>
    obtain ⟨k, hk, rfl, rfl⟩ := hrel
    by_cases hlt : k < s.size
    · have hn : Crc.run 4294967295 (s.data.toList.take (k + 1)) = Crc.feed (Crc.run 4294967295 (s.data.toList.take k)) s[k] := by
        rw [← Crc.run_snoc, List.take_succ_eq_append_getElem (by simpa using hlt)]; rfl
      have hcl : Crc.run 4294967295 (s.data.toList.take k) < 4294967296 := Crc.run_lt _ _ (by decide)
      have hx := Crc.byte_xor_lt _ s[k] hcl
      have ex := u32_xor_nat _ s[k].toNat hcl (by have := s[k].toNat_lt; omega)
      unfold Crc.feed at hn
      generalize Crc.run 4294967295 (s.data.toList.take k) = c at *
      generalize c ^^^ s[k].toNat = x at *
      obtain ⟨m1, t1, y1, hm1, et1, ey1, hy1, ea1, eb1⟩ := nib_facts x hx
      obtain ⟨m2, t2, y2, hm2, et2, ey2, hy2, ea2, eb2⟩ := nib_facts y1 hy1
      have c1 := ht m1 hm1
      have c2 := ht m2 hm2
      rw [← et1] at c1
      rw [← et2] at c2
      have hb : (s[k].toNat : Int) % 4294967296 = s[k].toNat := by have := s[k].toNat_lt; omega
      rw [← ey1, ← ey2] at hn
      have HN := Lib.hid hn
      clear hn et1 et2 ey1 ey2
      go_wp2
      go_round
      case rel => exact ⟨k + 1, by omega, by go_num, by rw [HN.out]⟩
      case measure => simp [intOf]; omega
    · obtain rfl : k = s.size := by omega
      have hk2 : s.data.toList.take s.size = s.data.toList := List.take_of_length_le (Nat.le_refl _)
      go_wp2
      go_ret
      refine ⟨?_, rfl⟩
      have hr : Crc.run 4294967295 s.data.toList < 4294967296 := Crc.run_lt _ _ (by decide)
      have e := not32 _ hr
      exact congrArg (fun z => Ending.returned (.int .u32 z)) e
theorem xor_poly (x : Nat) (hx : x < 4294967296) : bits .xor .i64 ((x : Int) / 2) 3988292384 = ((x / 2 ^^^ Crc.poly : Nat) : Int) := by
  rw [show ((x : Int) / 2) = ((x / 2 : Nat) : Int) from by omega]
  exact Base.int_xor (x / 2) 3988292384 (by omega) (by omega)
theorem step_succ (j x : Nat) : Crc.step (j + 1) x = Crc.bit (Crc.step j x) := by
  rw [Crc.step_add]; rfl
theorem bit_odd (x : Nat) (h : x % 2 = 1) : Crc.bit x = x / 2 ^^^ Crc.poly := by unfold Crc.bit; rw [if_pos h]
theorem bit_even (x : Nat) (h : x % 2 = 0) : Crc.bit x = x / 2 := by unfold Crc.bit; rw [if_neg (by omega)]

set_option maxHeartbeats 400000 in
set_option maxRecDepth 100000 in
theorem refCrc_any (s : ByteArray) (w : World) (hs : s.size ≤ maxLen) :
    Calls Tryd.prog 16 #[.string s] w fun e w' => e = .returned (.int .u32 (Crc.crc s.data.toList : Nat)) ∧ w = w' := by
  unfold maxLen at hs
  go_enter Tryd.func16, Tryd.ntmps16
  go_wp2
  go_loop [3, 4] (fun c i => ∃ k : Nat, k ≤ s.size ∧ i = .int .i64 k ∧ c = .int .i64 (Crc.run 4294967295 (s.data.toList.take k) : Nat)) (fun _ i => s.size - (intOf i).toNat)
  case atStart => exact ⟨0, Nat.zero_le _, rfl, rfl⟩
  case round =>
    obtain ⟨k, hk, rfl, rfl⟩ := hrel
    by_cases hlt : k < s.size
    · have hn : Crc.run 4294967295 (s.data.toList.take (k + 1)) = Crc.feed (Crc.run 4294967295 (s.data.toList.take k)) s[k] := by
        rw [← Crc.run_snoc, List.take_succ_eq_append_getElem (by simpa using hlt)]; rfl
      have hcl : Crc.run 4294967295 (s.data.toList.take k) < 4294967296 := Crc.run_lt _ _ (by decide)
      have hx := Crc.byte_xor_lt _ s[k] hcl
      have ex := Base.int_xor (Crc.run 4294967295 (s.data.toList.take k)) s[k].toNat (by omega) (by have := s[k].toNat_lt; omega)
      rw [Crc.feed_eq] at hn
      generalize Crc.run 4294967295 (s.data.toList.take k) = c at *
      generalize c ^^^ s[k].toNat = x at *
      have hb : (s[k].toNat : Int) < 256 := by have := s[k].toNat_lt; omega
      have HN := Lib.hid hn
      clear hn
      go_wp2
      go_loop [3, 5] (fun r i => ∃ j : Nat, j ≤ 8 ∧ i = .int .i64 j ∧ r = .int .i64 (Crc.step j x : Nat)) (fun _ i => 8 - (intOf i).toNat)
      case atStart => exact ⟨0, Nat.zero_le _, rfl, rfl⟩
      case round =>
        obtain ⟨j, hj, rfl, rfl⟩ := hrel
        have hsl := Crc.step_lt j x hx
        by_cases hj8 : j < 8
        · have hss := step_succ j x
          generalize Crc.step j x = r at *
          have HS := Lib.hid hss
          clear hss
          by_cases hr : r % 2 = 1
          · have ep := xor_poly r hsl
            have eb := Lib.hid (bit_odd r hr)
            have hr1 : ((r : Int) % 2 == 1) = true := by simp; omega
            have hr0 : (0 : Int) ≤ (r : Int) := by omega
            clear hr
            go_wp2
            go_round
            case rel => exact ⟨j + 1, by omega, by go_num, by rw [HS.out, eb.out]⟩
            case measure => simp [intOf]; omega
          · have eb := Lib.hid (bit_even r (by omega))
            have hr1 : ((r : Int) % 2 == 1) = false := by simp; omega
            clear hr
            go_wp2
            go_round
            case rel => exact ⟨j + 1, by omega, by go_num, by rw [HS.out, eb.out]; go_num⟩
            case measure => simp [intOf]; omega
        · obtain rfl : j = 8 := by omega
          go_wp2
          go_round
          case rel => exact ⟨k + 1, by omega, by go_num, by rw [HN.out]⟩
          case measure => simp [intOf]; omega
    · obtain rfl : k = s.size := by omega
      have hk2 : s.data.toList.take s.size = s.data.toList := List.take_of_length_le (Nat.le_refl _)
      have hr : Crc.run 4294967295 s.data.toList < 4294967296 := Crc.run_lt _ _ (by decide)
      go_wp2
      go_ret
      exact ⟨congrArg (fun z => Ending.returned (.int .u32 z)) (by unfold Crc.crc; omega), rfl⟩
end Go.Proofs.YtfgfphodpghgbaaDoor.FrameCrc
