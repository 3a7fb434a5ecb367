/- frame.sum, frame.Record and the reference's seal and Record return the bytes that the plain functions say; the table must hold its sixteen numbers. -/
import Derived.Test.YtfgfphodpghgbaaDoorFrameCrc
import Derived.Test.YtfgfphodpghgbaaDoorOwn
namespace Go.Proofs.YtfgfphodpghgbaaDoor.FrameRec
open Go.RowKit FrameCrc

theorem str4 (z0 z1 z2 z3 : Int) (w : World) :
    (convert 35 9 (.slice (some ⟨w.heap.size, 0, none⟩) 4 4)).run Tryd.prog (w.alloc (.cells #[.int .u8 z0, .int .u8 z1, .int .u8 z2, .int .u8 z3] 5)) =
      .ok (.string ⟨#[UInt8.ofNat z0.toNat, UInt8.ofNat z1.toNat, UInt8.ofNat z2.toNat, UInt8.ofNat z3.toNat]⟩) (w.alloc (.cells #[.int .u8 z0, .int .u8 z1, .int .u8 z2, .int .u8 z3] 5)) :=
  Base.run_str_row _ _ _ Tryd.underlying35 Tryd.underlying5 Tryd.underlying9 [z0, z1, z2, z3] 4 4 rfl w
theorem str2 (z0 z1 : Int) (w : World) :
    (convert 35 9 (.slice (some ⟨w.heap.size, 0, none⟩) 2 2)).run Tryd.prog (w.alloc (.cells #[.int .u8 z0, .int .u8 z1] 5)) =
      .ok (.string ⟨#[UInt8.ofNat z0.toNat, UInt8.ofNat z1.toNat]⟩) (w.alloc (.cells #[.int .u8 z0, .int .u8 z1] 5)) :=
  Base.run_str_row _ _ _ Tryd.underlying35 Tryd.underlying5 Tryd.underlying9 [z0, z1] 2 2 rfl w

set_option maxHeartbeats 400000 in
theorem sum_any (s : ByteArray) (w : World) (hs : s.size ≤ maxLen) (ht : TabHeld w) :
    Calls Tryd.prog 47 #[.string s] w fun e w' => e = .returned (.string ⟨(Crc.le4 (Crc.crc s.data.toList)).toArray⟩) ∧ Below w.heap.size w w' := by
  have hc := Crc.crc_lt s.data.toList
  have h4 := str4
  go_enter Tryd.func47, Tryd.ntmps47
  go_wp2_with (go_at_call 15; refine (crc_any _ _ hs ht).mono ?_; rintro e w' ⟨rfl, rfl⟩)
  go_ret
  refine ⟨congrArg (fun l => Ending.returned (.string ⟨l⟩)) ?_, (Below.refl _ _).alloc (Nat.le_refl _) _⟩
  simp [Crc.le4, Base.u8_mod]

theorem byte_info : (Tryd.prog.info? 5).map (fun i => (i.zero, i.size, i.bytes)) = some (some (.int .u8 0), 1, 1) := by kernel_rfl
/-- the register after k bytes have been written -/
theorem le4_take (c k : Nat) (h : k < 4) : (Crc.le4 c).take (k + 1) = (Crc.le4 c).take k ++ [UInt8.ofNat (c / 256 ^ k)] := by
  have : k = 0 ∨ k = 1 ∨ k = 2 ∨ k = 3 := by omega
  rcases this with rfl | rfl | rfl | rfl <;> simp [Crc.le4]

set_option maxHeartbeats 400000 in
set_option maxRecDepth 100000 in
theorem seal_any (s : ByteArray) (w : World) (hs : s.size ≤ 65536) :
    Calls Tryd.prog 48 #[.string s] w fun e w' => e = .returned (.string ⟨(Crc.sealed s.data.toList).toArray⟩) ∧ Below w.heap.size w w' := by
  have hm : s.size ≤ maxLen := by unfold maxLen; omega
  obtain ⟨i0, hi, hz0, hz1, hz2⟩ := info_parts byte_info
  have hc := Crc.crc_lt s.data.toList
  obtain ⟨v0, w0, hr0, hrow0, hb0, -⟩ := Own.run_bytes (P := Tryd.prog) w 9 35 5 s Tryd.underlying9 Tryd.underlying35 Tryd.underlying5 hm
  go_enter Tryd.func48, Tryd.ntmps48
  go_wp2_with (go_at_call 16; refine (refCrc_any _ _ hm).mono ?_; rintro e w' ⟨rfl, rfl⟩)
  go_loopw [3, 4, 5] (fun c b i wr => ∃ k : Nat, k ≤ 4 ∧ i = .int .i64 k ∧ c = .int .i64 ((Crc.crc s.data.toList / 256 ^ k : Nat) : Int) ∧
      Own.Row wr w.heap.size 5 1 b (s.size + k) (Own.byteCells (s.data.toList ++ (Crc.le4 (Crc.crc s.data.toList)).take k)) ∧ Below w.heap.size w wr) (fun _ _ i _ => 4 - (intOf i).toNat)
  case atStart => exact ⟨0, by omega, rfl, by simp, by simpa using hrow0, hb0⟩
  case round =>
    obtain ⟨k, hk, rfl, rfl, hrow, hb⟩ := hrel
    by_cases hlt : k < 4
    · have hx : Crc.crc s.data.toList / 256 ^ k < 4294967296 := Nat.lt_of_le_of_lt (Nat.div_le_self _ _) hc
      have hnx : Crc.crc s.data.toList / 256 ^ (k + 1) = Crc.crc s.data.toList / 256 ^ k / 256 := by rw [Nat.pow_succ, Nat.div_div_eq_div_mul]
      have htk := le4_take (Crc.crc s.data.toList) k hlt
      generalize Crc.crc s.data.toList / 256 ^ k = x at *
      have HN := Lib.hid hnx
      have HT := Lib.hid htk
      clear hnx htk hr0
      have n1 : s.size + k + 1 ≤ maxLen := by unfold maxLen; omega
      have n2 : (s.size + k + 1) * 1 ≤ 140737488355328 := by omega
      go_wp2_with (at_builtin; refine Own.wpList_append_one _ rfl _ _ 35 rfl w.heap.size 5 i0 (.int .u8 0) 1 Tryd.underlying35 hi hz0 hz1 hz2 rfl _ _ _ rfl hrow (.int .u8 ((x : Int) % 256)) rfl rfl n1 n2 hb.size ?_; intro v' w1 hrow1 hg1 hb1)
      go_roundw
      case rel =>
        refine ⟨k + 1, by omega, by go_num, by rw [HN.out]; go_num, ?_, hb.trans hb1⟩
        rw [HT.out, ← List.append_assoc, Own.byteCells_append]
        have e : Own.byteCells [UInt8.ofNat x] = [.int .u8 ((x : Int) % 256)] := by simp [Own.byteCells]
        rw [e]
        exact hrow1
      case measure => simp [intOf]; omega
    · obtain rfl : k = 4 := by omega
      have hrc := hrow.run_str (P := Tryd.prog) 35 9 Tryd.underlying35 Tryd.underlying5 Tryd.underlying9
      clear hr0
      go_wp2
      go_ret
      refine ⟨congrArg (fun l => Ending.returned (.string ⟨l⟩)) ?_, hb⟩
      simp [Crc.sealed, Crc.le4]
theorem append_str (a b : List UInt8) : (⟨a.toArray⟩ : ByteArray) ++ (⟨b.toArray⟩ : ByteArray) = ⟨(a ++ b).toArray⟩ := by
  apply ByteArray.ext; simp

set_option maxHeartbeats 400000 in
theorem record_any (s : ByteArray) (w : World) (hs : s.size ≤ maxLen) (ht : TabHeld w) :
    Calls Tryd.prog 18 #[.string s] w fun e w' => e = .returned (.tuple #[.string ⟨(Crc.recStr s.data.toList).toArray⟩, .int .i64 (Crc.recErr s.data.toList)]) ∧ Below w.heap.size w w' := by
  have hsl : s.data.toList.length = s.size := by simp
  unfold maxLen at hs
  by_cases hbig : 4096 < s.size
  · have e1 : Crc.recStr s.data.toList = [] := by unfold Crc.recStr; rw [if_pos (by omega)]
    have e2 : Crc.recErr s.data.toList = 3 := by unfold Crc.recErr; rw [if_pos (by omega)]
    rw [e1, e2]
    go_enter Tryd.func18, Tryd.ntmps18
    go_wp2
    go_ret2
    exact ⟨rfl, Below.refl _ _⟩
  · have e1 : Crc.recStr s.data.toList = Crc.record s.data.toList := by unfold Crc.recStr; rw [if_neg (by omega)]
    have e2 : Crc.recErr s.data.toList = 0 := by unfold Crc.recErr; rw [if_neg (by omega)]
    rw [e1, e2]
    have h2 := str2
    go_enter Tryd.func18, Tryd.ntmps18
    go_wp2_with fail
    have hde : (⟨#[UInt8.ofNat (s.size / 256), UInt8.ofNat (s.size % 256)]⟩ ++ s : ByteArray).data.toList = Crc.head s.data.toList.length ++ s.data.toList := by
      simp [Crc.head, Base.u8_mod]
    have hdz : (⟨#[UInt8.ofNat (s.size / 256), UInt8.ofNat (s.size % 256)]⟩ ++ s : ByteArray).size ≤ 4098 := by
      rw [ByteArray.size_append]
      have e : (⟨#[UInt8.ofNat (s.size / 256), UInt8.ofNat (s.size % 256)]⟩ : ByteArray).size = 2 := rfl
      omega
    generalize (⟨#[UInt8.ofNat (s.size / 256), UInt8.ofNat (s.size % 256)]⟩ ++ s : ByteArray) = hd at *
    have HD := Lib.hid hde
    clear hde
    refine (sum_any _ _ (by unfold maxLen; omega) (ht.alloc _)).mono ?_
    rintro e w1 ⟨rfl, hb⟩
    have htz : (⟨(Crc.le4 (Crc.crc hd.data.toList)).toArray⟩ : ByteArray).size ≤ 4 := Nat.le_refl _
    have HT : Hid ((⟨(Crc.le4 (Crc.crc hd.data.toList)).toArray⟩ : ByteArray).data.toList = Crc.le4 (Crc.crc hd.data.toList)) := by simp [Hid]
    generalize (⟨(Crc.le4 (Crc.crc hd.data.toList)).toArray⟩ : ByteArray) = tl at *
    go_wp2
    go_ret2
    refine ⟨?_, ((Below.refl _ _).alloc (Nat.le_refl _) _).trans (hb.mono (by simp))⟩
    refine congrArg (fun l => Ending.returned (.tuple #[.string l, .int .i64 0])) ?_
    apply ByteArray.ext
    apply Array.toList_inj.1
    simp [Crc.record, Crc.sealed, HD.out, HT.out]
set_option maxHeartbeats 400000 in
theorem refRecord_any (s : ByteArray) (w : World) (hs : s.size ≤ maxLen) :
    Calls Tryd.prog 19 #[.string s] w fun e w' => e = .returned (.tuple #[.string ⟨(Crc.recStr s.data.toList).toArray⟩, .int .i64 (Crc.recErr s.data.toList)]) ∧ Below w.heap.size w w' := by
  have hsl : s.data.toList.length = s.size := by simp
  unfold maxLen at hs
  by_cases hbig : 4096 < s.size
  · have e1 : Crc.recStr s.data.toList = [] := by unfold Crc.recStr; rw [if_pos (by omega)]
    have e2 : Crc.recErr s.data.toList = 3 := by unfold Crc.recErr; rw [if_pos (by omega)]
    rw [e1, e2]
    go_enter Tryd.func19, Tryd.ntmps19
    go_wp2
    go_ret2
    exact ⟨rfl, Below.refl _ _⟩
  · have e1 : Crc.recStr s.data.toList = Crc.record s.data.toList := by unfold Crc.recStr; rw [if_neg (by omega)]
    have e2 : Crc.recErr s.data.toList = 0 := by unfold Crc.recErr; rw [if_neg (by omega)]
    rw [e1, e2]
    have h2 := str2
    go_enter Tryd.func19, Tryd.ntmps19
    go_wp2_with fail
    have hde : (⟨#[UInt8.ofNat (s.size / 256), UInt8.ofNat (s.size % 256)]⟩ ++ s : ByteArray).data.toList = Crc.head s.data.toList.length ++ s.data.toList := by
      simp [Crc.head, Base.u8_mod]
    have hdz : (⟨#[UInt8.ofNat (s.size / 256), UInt8.ofNat (s.size % 256)]⟩ ++ s : ByteArray).size ≤ 4098 := by
      rw [ByteArray.size_append]
      have e : (⟨#[UInt8.ofNat (s.size / 256), UInt8.ofNat (s.size % 256)]⟩ : ByteArray).size = 2 := rfl
      omega
    generalize (⟨#[UInt8.ofNat (s.size / 256), UInt8.ofNat (s.size % 256)]⟩ ++ s : ByteArray) = hd at *
    have HD := Lib.hid hde
    clear hde
    refine (seal_any _ _ (by omega)).mono ?_
    rintro e w1 ⟨rfl, hb⟩
    go_wp2
    go_ret2
    refine ⟨?_, ((Below.refl _ _).alloc (Nat.le_refl _) _).trans (hb.mono (by simp))⟩
    refine congrArg (fun l => Ending.returned (.tuple #[.string ⟨l⟩, .int .i64 0])) ?_
    simp [Crc.record, HD.out]
end Go.Proofs.YtfgfphodpghgbaaDoor.FrameRec
