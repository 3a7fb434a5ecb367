/- frame.Next and the reference's Next return the string, the offset and the error that the plain function says; the table must hold its sixteen numbers. -/
import Derived.Test.YtfgfphodpghgbaaDoorFrameRec
import Derived.Deep.QuietTactic
import Derived.BigQuiet
import Derived.Deep.RegionWith
import Derived.Lib.Strings
namespace Go.Proofs.YtfgfphodpghgbaaDoor.FrameNext
open Go.RowKit FrameCrc FrameRec

theorem nextV_of {l : List UInt8} {i : Int} {x : List UInt8} {n e : Int} (h : Crc.next l i = (x, n, e)) : Value.tuple #[.string ⟨(Crc.next l i).1.toArray⟩, .int .i64 (Crc.next l i).2.1, .int .i64 (Crc.next l i).2.2] = .tuple #[.string ⟨x.toArray⟩, .int .i64 n, .int .i64 e] := by
  rw [h]
theorem or_bytes (a b : Nat) (ha : a < 256) (hb : b < 256) : bits .or .i64 ((a : Int) * 256) (b : Int) = ((a * 256 + b : Nat) : Int) := by
  have h := Base.int_or (a * 256) b (by omega) (by omega)
  rw [show ((a : Int) * 256) = ((a * 256 : Nat) : Int) from by omega, h]
  have e := Nat.two_pow_add_eq_or_of_lt (i := 8) (b := b) (by omega) a
  rw [show a * 256 = 2 ^ 8 * a from by omega, ← e]
def sumOf (s : ByteArray) : ByteArray := ⟨(Crc.le4 (Crc.crc s.data.toList)).toArray⟩
theorem sum_of (s : ByteArray) (w : World) (hs : s.size ≤ maxLen) (ht : TabHeld w) :
    Calls Tryd.prog 47 #[.string s] w fun e w' => e = .returned (.string (sumOf s)) ∧ Below w.heap.size w w' := sum_any s w hs ht
def nextV (l : List UInt8) (i : Int) : Value := .tuple #[.string ⟨(Crc.next l i).1.toArray⟩, .int .i64 (Crc.next l i).2.1, .int .i64 (Crc.next l i).2.2]
theorem nextV_bad (l : List UInt8) (k : Nat) (e : Int) (hk : k ≤ l.length) (h : Crc.nextR (l.drop k) = ([], 0, e)) (he : e ≠ 0) : nextV l k = .tuple #[.string ⟨#[]⟩, .int .i64 0, .int .i64 e] :=
  nextV_of (Crc.next_bad l k e hk h he)
theorem nextV_good (l : List UInt8) (k n : Nat) (x : List UInt8) (hk : k ≤ l.length) (h : Crc.nextR (l.drop k) = (x, n, 0)) : nextV l k = .tuple #[.string ⟨x.toArray⟩, .int .i64 ((k : Int) + n), .int .i64 0] :=
  nextV_of (Crc.next_good l k n x hk h)

set_option maxHeartbeats 400000 in
theorem next_any (s : ByteArray) (i : Int) (w : World) (hs : s.size ≤ maxLen) (ht : TabHeld w) :
    Calls Tryd.prog 20 #[.string s, .int .i64 i] w fun e w' => e = .returned (nextV s.data.toList i) ∧ Below w.heap.size w w' := by
  have hsl : s.data.toList.length = s.size := by simp
  unfold maxLen at hs
  by_cases hi : i < 0 ∨ (s.size : Int) < i
  · have e1 : nextV s.data.toList i = .tuple #[.string ⟨#[]⟩, .int .i64 0, .int .i64 2] := by
      exact nextV_of (Crc.next_out _ _ (by omega))
    rw [e1]
    by_cases hi0 : i < 0
    · go_enter Tryd.func20, Tryd.ntmps20
      go_wp2
      go_ret3
      exact ⟨rfl, Below.refl _ _⟩
    · have hi1 : (s.size : Int) < i := by omega
      go_enter Tryd.func20, Tryd.ntmps20
      go_wp2
      go_ret3
      exact ⟨rfl, Below.refl _ _⟩
  · obtain ⟨k, rfl⟩ := Int.eq_ofNat_of_zero_le (show 0 ≤ i by omega)
    have hk : k ≤ s.size := by omega
    clear hi
    by_cases h2 : s.size - k < 2
    · have e1 : nextV s.data.toList k = .tuple #[.string ⟨#[]⟩, .int .i64 0, .int .i64 14] := nextV_bad _ _ _ (by omega) (Crc.nextR_short _ (by simp; omega)) (by decide)
      rw [e1]
      go_enter Tryd.func20, Tryd.ntmps20
      go_wp2
      go_ret3
      exact ⟨rfl, Below.refl _ _⟩
    · generalize hE : nextV s.data.toList k = V
      go_enter Tryd.func20, Tryd.ntmps20
      go_wp2
      have hrz : (s.extract k s.size).size = s.size - k := by simp
      have hrl : (s.extract k s.size).data.toList = s.data.toList.drop k := by
        rw [Lib.extract_data]; exact List.take_of_length_le (by rw [List.length_drop, hsl]; exact Nat.le_refl _)
      generalize s.extract k s.size = r at *
      have hz2 : 2 ≤ r.size := by omega
      have HZ := Lib.hid hrz
      have HL := Lib.hid hrl
      clear hrz hrl
      have i0 : ∀ W, (Instr.index 9 (.string r) (.int .i64 0)).run Tryd.prog W = .ok (.int .u8 (Base.byteAt r 0)) W := Base.run_byte _ Tryd.underlying9 r .i64 0 (by omega) (by omega)
      have i1 : ∀ W, (Instr.index 9 (.string r) (.int .i64 1)).run Tryd.prog W = .ok (.int .u8 (Base.byteAt r 1)) W := Base.run_byte _ Tryd.underlying9 r .i64 1 (by omega) (by omega)
      have l0 := Base.byteAt_lt r 0
      have l1 := Base.byteAt_lt r 1
      have eor := or_bytes _ _ l0 l1
      have hn2 : Base.byteAt r 0 * 256 + Base.byteAt r 1 = Crc.size2 r.data.toList := rfl
      have hnl : Base.byteAt r 0 * 256 + Base.byteAt r 1 < 65536 := by omega
      rw [hn2] at eor hnl
      clear hn2
      have HE := Lib.hid hE
      clear hE
      generalize hn : Crc.size2 r.data.toList = n at *
      have HN := Lib.hid hn
      clear hn
      go_quiet (fail)
      clear i0 i1 eor
      by_cases hbig : 4096 < n
      · have hV : V = .tuple #[.string ⟨#[]⟩, .int .i64 0, .int .i64 13] := by
          rw [← HE.out]
          exact nextV_bad _ _ _ (by omega) (by rw [← HL.out]; exact Crc.nextR_big _ (by simpa using hz2) (by rw [HN.out]; exact hbig)) (by decide)
        have HV := Lib.hid hV
        clear hV
        go_wp2
        go_ret3
        exact ⟨by rw [HV.out]; rfl, Base.below_drewN (Below.refl _ _) _⟩
      · by_cases hcut : r.size < n + 6
        · have hV : V = .tuple #[.string ⟨#[]⟩, .int .i64 0, .int .i64 14] := by
            rw [← HE.out]
            exact nextV_bad _ _ _ (by omega) (by rw [← HL.out]; exact Crc.nextR_cut _ (by simpa using hz2) (by rw [HN.out]; omega) (by rw [HN.out]; simpa using hcut)) (by decide)
          have HV := Lib.hid hV
          clear hV
          go_wp2
          go_ret3
          exact ⟨by rw [HV.out]; rfl, Base.below_drewN (Below.refl _ _) _⟩
        · have ht' := (ht.drewN nq)
          have w2 : IntKind.i64.wrap ((n : Int) + 2) = (n : Int) + 2 := Base.wrap_add n 2 (by omega)
          have w6 : IntKind.i64.wrap ((n : Int) + 6) = (n : Int) + 6 := Base.wrap_add n 6 (by omega)
          have s1 : ∀ W, (Instr.slice 9 (.string r) (some (.int .i64 ((n : Int) + 2))) (some (.int .i64 ((n : Int) + 6))) none).run Tryd.prog W = .ok (.string (r.extract (n + 2) (n + 6))) W := fun W => run_slice_string W _ r .i64 .i64 _ _ Tryd.underlying9 (by omega) (by omega) (by omega)
          have s2 : ∀ W, (Instr.slice 9 (.string r) none (some (.int .i64 ((n : Int) + 2))) none).run Tryd.prog W = .ok (.string (r.extract 0 (n + 2))) W := fun W => run_slice_string_h W _ r Tryd.underlying9 .i64 _ (by omega) (by omega)
          have hal : (r.extract (n + 2) (n + 6)).data.toList = (r.data.toList.drop (n + 2)).take 4 := by
            rw [Lib.extract_data, show n + 6 - (n + 2) = 4 from by omega]
          have hbl : (r.extract 0 (n + 2)).data.toList = r.data.toList.take (n + 2) := by
            rw [Lib.extract_data]; simp
          have s3 : ∀ W, (Instr.slice 9 (.string r) (some (.int .i64 2)) (some (.int .i64 ((n : Int) + 2))) none).run Tryd.prog W = .ok (.string (r.extract 2 (n + 2))) W := fun W => run_slice_string W _ r .i64 .i64 _ _ Tryd.underlying9 (by omega) (by omega) (by omega)
          have hxl : (r.extract 2 (n + 2)).data.toList = (r.data.toList.drop 2).take n := by
            rw [Lib.extract_data, show n + 2 - 2 = n from by omega]
          have HX := Lib.hid hxl
          clear hxl
          generalize r.extract 2 (n + 2) = X at *
          have hbz : (r.extract 0 (n + 2)).size ≤ 4098 := by simp; omega
          generalize r.extract (n + 2) (n + 6) = A at *
          generalize r.extract 0 (n + 2) = B at *
          have hkn : k + n + 6 ≤ s.size := by have := HZ.out; omega
          have hbm : B.size ≤ maxLen := by unfold maxLen; omega
          have HA := Lib.hid hal
          have HB := Lib.hid hbl
          clear hal hbl
          have hseal : (A.toList == (sumOf B).toList) = true ↔ Crc.sealed (r.data.toList.take (n + 2)) = r.data.toList.take (n + 6) := by
            have e1 : r.data.toList.take (n + 6) = r.data.toList.take (n + 2) ++ A.data.toList := by
              rw [HA.out, ← List.take_add]
            have e2 : (sumOf B).data.toList = Crc.le4 (Crc.crc (r.data.toList.take (n + 2))) := by
              unfold sumOf; rw [HB.out]
            rw [beq_iff_eq, ByteArray.toList_eq, ByteArray.toList_eq, e1, e2]
            unfold Crc.sealed
            constructor
            · intro e; rw [e]
            · intro e; exact (List.append_cancel_left e).symm
          by_cases hq : (A.toList == (sumOf B).toList) = true
          · have hs' : Crc.sealed (r.data.toList.take (n + 2)) = r.data.toList.take (n + 6) := hseal.1 hq
            have hV : V = .tuple #[.string ⟨((r.data.toList.drop 2).take n).toArray⟩, .int .i64 ((k : Int) + n + 6), .int .i64 0] := by
              rw [← HE.out, nextV_good _ k (n + 6) _ (by omega) (by rw [← HL.out]; rw [← HN.out]; exact Crc.nextR_good _ (by simpa using hz2) (by rw [HN.out]; omega) (by rw [HN.out]; simpa using hcut) (by rw [HN.out]; exact hs'))]
              rw [HN.out]
              simp [Int.add_assoc]
            have HV := Lib.hid hV
            clear hV hs'
            go_wp2
            go_region_with (go_at_call 47; refine (sum_of _ _ hbm (ht.drewN _)).mono ?_; rintro e w1 ⟨rfl, hb⟩)
            go_wp2
            go_ret3
            refine ⟨?_, (Base.below_drewN (Below.refl _ _) _).trans (hb.mono (Nat.le_refl _))⟩
            rw [HV.out]
            refine congrArg (fun l => Ending.returned (.tuple #[.string ⟨l⟩, .int .i64 ((k : Int) + n + 6), .int .i64 0])) ?_
            apply Array.toList_inj.1
            exact HX.out
          · have hq' : (A.toList == (sumOf B).toList) = false := by simpa using hq
            have hs' : Crc.sealed (r.data.toList.take (n + 2)) ≠ r.data.toList.take (n + 6) := by
              intro e
              exact hq (hseal.2 e)
            have hV : V = .tuple #[.string ⟨#[]⟩, .int .i64 0, .int .i64 13] := by
              rw [← HE.out]
              exact nextV_bad _ _ _ (by omega) (by rw [← HL.out]; exact Crc.nextR_bad _ (by simpa using hz2) (by rw [HN.out]; omega) (by rw [HN.out]; simpa using hcut) (by rw [HN.out]; exact hs')) (by decide)
            have HV := Lib.hid hV
            clear hV hq hs'
            go_wp2
            go_region_with (go_at_call 47; refine (sum_of _ _ hbm (ht.drewN _)).mono ?_; rintro e w1 ⟨rfl, hb⟩)
            go_wp2
            go_ret3
            exact ⟨by rw [HV.out]; rfl, (Base.below_drewN (Below.refl _ _) _).trans (hb.mono (Nat.le_refl _))⟩
theorem next_open (s : ByteArray) (i : Int) (w : World) (hs : s.size ≤ maxLen) (ht : TabHeld w) :
    Calls Tryd.prog 20 #[.string s, .int .i64 i] w fun e w' => e = .returned (.tuple #[.string ⟨(Crc.next s.data.toList i).1.toArray⟩, .int .i64 (Crc.next s.data.toList i).2.1, .int .i64 (Crc.next s.data.toList i).2.2]) ∧ Below w.heap.size w w' := next_any s i w hs ht
end Go.Proofs.YtfgfphodpghgbaaDoor.FrameNext
