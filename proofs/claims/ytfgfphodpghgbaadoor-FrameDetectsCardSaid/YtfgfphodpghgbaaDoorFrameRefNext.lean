/- The reference's Next returns what the plain function says, for any string and offset. No condition. -/
import Derived.Test.YtfgfphodpghgbaaDoorFrameNext
namespace Go.Proofs.YtfgfphodpghgbaaDoor.FrameRefNext
open Go.RowKit FrameCrc FrameRec FrameNext

def sealOf (s : ByteArray) : ByteArray := ⟨(Crc.sealed s.data.toList).toArray⟩
theorem seal_of (s : ByteArray) (w : World) (hs : s.size ≤ 65536) :
    Calls Tryd.prog 48 #[.string s] w fun e w' => e = .returned (.string (sealOf s)) ∧ Below w.heap.size w w' := seal_any s w hs
theorem getD_drop (l : List UInt8) (k j : Nat) : (l.drop k).getD j 0 = l.getD (k + j) 0 := by
  simp [List.getD]
theorem mul_256 (a : Nat) (ha : a < 256) : IntKind.i64.wrap ((a : Int) * 256) = (a : Int) * 256 := by
  rw [IntKind.wrap_i64]; omega

set_option maxHeartbeats 400000 in
theorem refNext_any (s : ByteArray) (i : Int) (w : World) (hs : s.size ≤ maxLen) :
    Calls Tryd.prog 21 #[.string s, .int .i64 i] w fun e w' => e = .returned (nextV s.data.toList i) ∧ Below w.heap.size w w' := by
  have hsl : s.data.toList.length = s.size := by simp
  unfold maxLen at hs
  by_cases hi : i < 0 ∨ (s.size : Int) < i
  · have e1 : nextV s.data.toList i = .tuple #[.string ⟨#[]⟩, .int .i64 0, .int .i64 2] := by
      exact nextV_of (Crc.next_out _ _ (by omega))
    rw [e1]
    by_cases hi0 : i < 0
    · go_enter Tryd.func21, Tryd.ntmps21
      go_wp2
      go_ret3
      exact ⟨rfl, Below.refl _ _⟩
    · have hi1 : (s.size : Int) < i := by omega
      go_enter Tryd.func21, Tryd.ntmps21
      go_wp2
      go_ret3
      exact ⟨rfl, Below.refl _ _⟩
  · obtain ⟨k, rfl⟩ := Int.eq_ofNat_of_zero_le (show 0 ≤ i by omega)
    have hk : k ≤ s.size := by omega
    clear hi
    by_cases h2 : s.size - k < 2
    · have e1 : nextV s.data.toList k = .tuple #[.string ⟨#[]⟩, .int .i64 0, .int .i64 14] := nextV_bad _ _ _ (by omega) (Crc.nextR_short _ (by simp; omega)) (by decide)
      rw [e1]
      have h2' : (s.size : Int) - k < 2 := by omega
      go_enter Tryd.func21, Tryd.ntmps21
      go_wp2
      go_ret3
      exact ⟨rfl, Below.refl _ _⟩
    · have h2' : 2 ≤ (s.size : Int) - k := by omega
      have hz2 : 2 ≤ (s.data.toList.drop k).length := by simp; omega
      generalize hE : nextV s.data.toList k = V
      have HE := Lib.hid hE
      clear hE
      have i0 : ∀ W, (Instr.index 9 (.string s) (.int .i64 (k : Int))).run Tryd.prog W = .ok (.int .u8 (Base.byteAt s k)) W := Base.run_byte _ Tryd.underlying9 s .i64 k (by omega) (by omega)
      have i1 : ∀ W, (Instr.index 9 (.string s) (.int .i64 ((k : Int) + 1))).run Tryd.prog W = .ok (.int .u8 (Base.byteAt s (k + 1))) W := Base.run_byte _ Tryd.underlying9 s .i64 ((k : Int) + 1) (by omega) (by omega)
      have l0 := Base.byteAt_lt s k
      have l1 := Base.byteAt_lt s (k + 1)
      have hn : Crc.size2 (s.data.toList.drop k) = Base.byteAt s k * 256 + Base.byteAt s (k + 1) := by
        simp only [Crc.size2, getD_drop, Base.byteAt, Nat.add_zero]
      have hnl : Base.byteAt s k * 256 + Base.byteAt s (k + 1) < 65536 := by omega
      have wk1 : IntKind.i64.wrap ((k : Int) + 1) = (k : Int) + 1 := Base.wrap_add k 1 (by omega)
      have wm := mul_256 _ l0
      have ws : IntKind.i64.wrap ((Base.byteAt s k : Int) * 256 + (Base.byteAt s (k + 1) : Int)) = ((Base.byteAt s k * 256 + Base.byteAt s (k + 1) : Nat) : Int) := by
        rw [IntKind.wrap_i64]; omega
      generalize hN : Base.byteAt s k * 256 + Base.byteAt s (k + 1) = n at *
      have HN := Lib.hid hn
      clear hn hN
      go_enter Tryd.func21, Tryd.ntmps21
      go_wp2
      go_quiet (fail)
      clear i0 i1 wk1 wm ws
      by_cases hbig : 4096 < n
      · have hV : V = .tuple #[.string ⟨#[]⟩, .int .i64 0, .int .i64 13] := by
          rw [← HE.out]
          exact nextV_bad _ _ _ (by omega) (Crc.nextR_big _ hz2 (by rw [HN.out]; exact hbig)) (by decide)
        have HV := Lib.hid hV
        clear hV
        go_wp2
        go_ret3
        exact ⟨by rw [HV.out]; rfl, Base.below_drewN (Below.refl _ _) _⟩
      · by_cases hcut : s.size - k < n + 6
        · have hcut' : (s.size : Int) - k < (n : Int) + 6 := by omega
          have hV : V = .tuple #[.string ⟨#[]⟩, .int .i64 0, .int .i64 14] := by
            rw [← HE.out]
            exact nextV_bad _ _ _ (by omega) (Crc.nextR_cut _ hz2 (by rw [HN.out]; omega) (by rw [HN.out]; simpa using hcut)) (by decide)
          have HV := Lib.hid hV
          clear hV
          go_wp2
          go_ret3
          exact ⟨by rw [HV.out]; rfl, Base.below_drewN (Below.refl _ _) _⟩
        · have hcut' : (n : Int) + 6 ≤ (s.size : Int) - k := by omega
          have w2 : IntKind.i64.wrap ((k : Int) + 2) = (k : Int) + 2 := Base.wrap_add k 2 (by omega)
          have w6 : IntKind.i64.wrap ((k : Int) + 6) = (k : Int) + 6 := Base.wrap_add k 6 (by omega)
          have w2n : IntKind.i64.wrap ((k : Int) + 2 + (n : Int)) = (k : Int) + 2 + n := Base.wrap_add (k + 2) n (by omega)
          have w6n : IntKind.i64.wrap ((k : Int) + 6 + (n : Int)) = (k : Int) + 6 + n := Base.wrap_add (k + 6) n (by omega)
          have s1 : ∀ W, (Instr.slice 9 (.string s) (some (.int .i64 (k : Int))) (some (.int .i64 ((k : Int) + 2 + (n : Int)))) none).run Tryd.prog W = .ok (.string (s.extract k (k + 2 + n))) W := fun W => run_slice_string W _ s .i64 .i64 _ _ Tryd.underlying9 (by omega) (by omega) (by omega)
          have s2 : ∀ W, (Instr.slice 9 (.string s) (some (.int .i64 (k : Int))) (some (.int .i64 ((k : Int) + 6 + (n : Int)))) none).run Tryd.prog W = .ok (.string (s.extract k (k + 6 + n))) W := fun W => run_slice_string W _ s .i64 .i64 _ _ Tryd.underlying9 (by omega) (by omega) (by omega)
          have s3 : ∀ W, (Instr.slice 9 (.string s) (some (.int .i64 ((k : Int) + 2))) (some (.int .i64 ((k : Int) + 2 + (n : Int)))) none).run Tryd.prog W = .ok (.string (s.extract (k + 2) (k + 2 + n))) W := fun W => run_slice_string W _ s .i64 .i64 _ _ Tryd.underlying9 (by omega) (by omega) (by omega)
          have hal : (s.extract k (k + 2 + n)).data.toList = (s.data.toList.drop k).take (n + 2) := by
            rw [Lib.extract_data, show k + 2 + n - k = n + 2 from by omega]
          have hbl : (s.extract k (k + 6 + n)).data.toList = (s.data.toList.drop k).take (n + 6) := by
            rw [Lib.extract_data, show k + 6 + n - k = n + 6 from by omega]
          have hxl : (s.extract (k + 2) (k + 2 + n)).data.toList = ((s.data.toList.drop k).drop 2).take n := by
            rw [Lib.extract_data, show k + 2 + n - (k + 2) = n from by omega, List.drop_drop]
          have haz : (s.extract k (k + 2 + n)).size ≤ 65536 := by simp; omega
          generalize s.extract k (k + 2 + n) = A at *
          generalize s.extract k (k + 6 + n) = B at *
          generalize s.extract (k + 2) (k + 2 + n) = X at *
          have HA := Lib.hid hal
          have HB := Lib.hid hbl
          have HX := Lib.hid hxl
          clear hal hbl hxl
          have hseal : ((sealOf A).toList == B.toList) = true ↔ Crc.sealed ((s.data.toList.drop k).take (n + 2)) = (s.data.toList.drop k).take (n + 6) := by
            have e2 : (sealOf A).data.toList = Crc.sealed ((s.data.toList.drop k).take (n + 2)) := by
              unfold sealOf; rw [HA.out]
            rw [beq_iff_eq, ByteArray.toList_eq, ByteArray.toList_eq, e2, HB.out]
          by_cases hq : ((sealOf A).toList == B.toList) = true
          · have hs' := hseal.1 hq
            have hV : V = .tuple #[.string ⟨(((s.data.toList.drop k).drop 2).take n).toArray⟩, .int .i64 ((k : Int) + 6 + n), .int .i64 0] := by
              rw [← HE.out, nextV_good _ k (n + 6) _ (by omega) (by rw [← HN.out]; exact Crc.nextR_good _ hz2 (by rw [HN.out]; omega) (by rw [HN.out]; simp; omega) (by rw [HN.out]; exact hs'))]
              rw [HN.out, show (k : Int) + 6 + n = (k : Int) + ((n + 6 : Nat) : Int) from by omega]
            have HV := Lib.hid hV
            clear hV hs' hseal
            go_wp2
            go_region_with (go_at_call 48; refine (seal_of _ _ haz).mono ?_; rintro e w1 ⟨rfl, hb⟩)
            go_wp2
            go_ret3
            refine ⟨?_, (Base.below_drewN (Below.refl _ _) _).trans (hb.mono (Nat.le_refl _))⟩
            rw [HV.out]
            refine congrArg (fun l => Ending.returned (.tuple #[.string ⟨l⟩, .int .i64 ((k : Int) + 6 + n), .int .i64 0])) ?_
            apply Array.toList_inj.1
            exact HX.out
          · have hq' : ((sealOf A).toList == B.toList) = false := by simpa using hq
            have hs' : Crc.sealed ((s.data.toList.drop k).take (n + 2)) ≠ (s.data.toList.drop k).take (n + 6) := fun e => hq (hseal.2 e)
            have hV : V = .tuple #[.string ⟨#[]⟩, .int .i64 0, .int .i64 13] := by
              rw [← HE.out]
              exact nextV_bad _ _ _ (by omega) (Crc.nextR_bad _ hz2 (by rw [HN.out]; omega) (by rw [HN.out]; simp; omega) (by rw [HN.out]; exact hs')) (by decide)
            have HV := Lib.hid hV
            clear hV hq hs' hseal
            go_wp2
            go_region_with (go_at_call 48; refine (seal_of _ _ haz).mono ?_; rintro e w1 ⟨rfl, hb⟩)
            go_wp2
            go_ret3
            exact ⟨by rw [HV.out]; rfl, (Base.below_drewN (Below.refl _ _) _).trans (hb.mono (Nat.le_refl _))⟩
theorem refNext_open (s : ByteArray) (i : Int) (w : World) (hs : s.size ≤ maxLen) :
    Calls Tryd.prog 21 #[.string s, .int .i64 i] w fun e w' => e = .returned (.tuple #[.string ⟨(Crc.next s.data.toList i).1.toArray⟩, .int .i64 (Crc.next s.data.toList i).2.1, .int .i64 (Crc.next s.data.toList i).2.2]) ∧ Below w.heap.size w w' := refNext_any s i w hs
end Go.Proofs.YtfgfphodpghgbaaDoor.FrameRefNext
