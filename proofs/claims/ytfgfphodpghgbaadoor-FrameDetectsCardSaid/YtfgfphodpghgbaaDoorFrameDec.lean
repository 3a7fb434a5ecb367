/- frame.Decode and the reference's Decode return the strings, the offset and the error that the plain function says, for strings of at most 2^30 bytes; the table must hold its sixteen numbers. -/
import Derived.Test.YtfgfphodpghgbaaDoorFrameRefNext
import Derived.Test.YtfgfphodpghgbaaDoorFrameAwake
import Derived.Test.YtfgfphodpghgbaaDoorDecMath
import Derived.Test.YtfgfphodpghgbaaDoorStrs
namespace Go.Proofs.YtfgfphodpghgbaaDoor.FrameDec
open Go.RowKit FrameCrc FrameRec FrameNext FrameRefNext Strs

theorem str_info : (Tryd.prog.info? 9).map (fun i => (i.zero, i.size, i.bytes)) = some (some (.string ⟨#[]⟩), 1, 16) := by kernel_rfl
/-- what a call of Decode leaves -/
def DecPost (w : World) (l : List UInt8) (e : Ending) (w' : World) : Prop :=
  ∃ v n, e = .returned (.tuple #[v, .int .i64 (Crc.decOff l), .int .i64 (Crc.decode l).2.2]) ∧ Own.Row w' w.heap.size 9 1 v n (cellsOf (Crc.decode l).1) ∧ Below w.heap.size w w'
theorem next_val (s : ByteArray) (i : Int) (w : World) (hs : s.size ≤ maxLen) (ht : TabHeld w) {x : List UInt8} {y e0 : Int} (h : Crc.next s.data.toList i = (x, y, e0)) :
    Calls Tryd.prog 20 #[.string s, .int .i64 i] w fun e w' => e = .returned (.tuple #[.string ⟨x.toArray⟩, .int .i64 y, .int .i64 e0]) ∧ Below w.heap.size w w' := by
  have := next_open s i w hs ht
  rw [h] at this
  exact this
theorem refNext_val (s : ByteArray) (i : Int) (w : World) (hs : s.size ≤ maxLen) {x : List UInt8} {y e0 : Int} (h : Crc.next s.data.toList i = (x, y, e0)) :
    Calls Tryd.prog 21 #[.string s, .int .i64 i] w fun e w' => e = .returned (.tuple #[.string ⟨x.toArray⟩, .int .i64 y, .int .i64 e0]) ∧ Below w.heap.size w w' := by
  have := refNext_open s i w hs
  rw [h] at this
  exact this

set_option maxHeartbeats 400000 in
theorem decode_any (s : ByteArray) (w : World) (hs : s.size ≤ 1073741824) (ht : TabHeld w) :
    Calls Tryd.prog 22 #[.string s] w (DecPost w s.data.toList) := by
  have hm : s.size ≤ maxLen := by unfold maxLen; omega
  have hsl : s.data.toList.length = s.size := by simp
  obtain ⟨i0, hi, hz0, hz1, hz2⟩ := info_parts str_info
  go_enter Tryd.func22, Tryd.ntmps22
  go_wp2
  go_loopw [5, 6] (fun out i wr => ∃ (k : Nat) (pre : List (List UInt8)), i = .int .i64 k ∧ k ≤ s.size ∧ pre.length * 6 ≤ k ∧ Crc.Inv s.data.toList k pre ∧
      Own.Row wr w.heap.size 9 1 out pre.length (cellsOf pre) ∧ Below w.heap.size w wr) (fun _ i _ => s.size - (intOf i).toNat)
  case atStart => exact ⟨0, [], rfl, by omega, by simp, Crc.inv_start _, Own.Row.nil _ _ _ _, Below.refl _ _⟩
  case round =>
    obtain ⟨k, pre, rfl, hk, hpk, hinv, hrow, hb⟩ := hrel
    by_cases hlt : k < s.size
    · have ht1 : TabHeld wr := ht.below (hb)
      by_cases he : (Crc.nextR (s.data.toList.drop k)).2.2 = 0
      · have hn : Crc.next s.data.toList k = ((Crc.nextR (s.data.toList.drop k)).1, (((k + (Crc.nextR (s.data.toList.drop k)).2.1 : Nat)) : Int), 0) := by
          rw [Crc.next_tail _ _ (by omega), if_pos he]
          simp
        have hst := Crc.inv_step hinv (by omega) he
        have hz := Crc.nextR_size _ he
        rw [List.length_drop] at hz
        generalize (Crc.nextR (s.data.toList.drop k)).1 = x at *
        generalize (Crc.nextR (s.data.toList.drop k)).2.1 = m at *
        have HN := Lib.hid hn
        clear hn he
        have n1 : pre.length + 1 ≤ maxLen := by unfold maxLen; omega
        have n2 : (pre.length + 1) * 16 ≤ 140737488355328 := by omega
        go_wp2_with (first
          | (go_at_call 20
             refine (next_val _ _ _ hm ht1 HN.out).mono ?_
             rintro e w1 ⟨rfl, hb1⟩
             have hrow1 := hrow.below hb1
             have hbw : Below w.heap.size w w1 := hb.trans (hb1.mono hb.size))
          | (at_builtin
             refine Own.wpList_append_one _ rfl _ _ 37 rfl w.heap.size 9 i0 (.string ⟨#[]⟩) 16 Tryd.underlying37 hi hz0 hz1 hz2 rfl _ _ _ rfl hrow1 (.string ⟨x.toArray⟩) rfl rfl n1 n2 hbw.size ?_
             intro v' w2 hrow2 hg2 hb2))
        go_roundw
        case rel =>
          refine ⟨k + m, pre ++ [x], by go_num, by omega, by simp; omega, hst, ?_, hbw.trans hb2⟩
          rw [cellsOf_append, List.length_append]
          exact hrow2
        case measure => simp [intOf]; omega
      · have hn : Crc.next s.data.toList k = ([], 0, (Crc.nextR (s.data.toList.drop k)).2.2) := by
          rw [Crc.next_tail _ _ (by omega), if_neg he]
        have hbad := Crc.inv_bad hinv (by omega) he
        generalize (Crc.nextR (s.data.toList.drop k)).2.2 = er at *
        have hq : (er != 0) = true := by simp [he]
        have HN := Lib.hid hn
        have HB := Lib.hid hbad
        have hE := Lib.hid he
        clear hn hbad he
        go_wp2_with (go_at_call 20; refine (next_val _ _ _ hm ht1 HN.out).mono ?_; rintro e w1 ⟨rfl, hb1⟩)
        go_ret3
        have hr := hrow.below hb1
        rw [show cellsOf pre = cellsOf (Crc.decode s.data.toList).1 from by rw [HB.out]] at hr
        refine ⟨_, _, ?_, hr, hb.trans (hb1.mono hb.size)⟩
        unfold Crc.decOff
        rw [HB.out, if_neg hE.out]
        rfl
    · have hend := Crc.inv_end hinv (by omega)
      have HB := Lib.hid hend
      clear hend
      go_wp2
      go_ret3
      rw [show cellsOf pre = cellsOf (Crc.decode s.data.toList).1 from by rw [HB.out]] at hrow
      refine ⟨_, _, ?_, hrow, hb⟩
      unfold Crc.decOff
      rw [HB.out, if_pos rfl]
      rfl

set_option maxHeartbeats 400000 in
theorem refDecode_any (s : ByteArray) (w : World) (hs : s.size ≤ 1073741824) :
    Calls Tryd.prog 23 #[.string s] w (DecPost w s.data.toList) := by
  have hm : s.size ≤ maxLen := by unfold maxLen; omega
  have hsl : s.data.toList.length = s.size := by simp
  obtain ⟨i0, hi, hz0, hz1, hz2⟩ := info_parts str_info
  go_enter Tryd.func23, Tryd.ntmps23
  go_wp2
  go_loopw [5, 6] (fun out i wr => ∃ (k : Nat) (pre : List (List UInt8)), i = .int .i64 k ∧ k ≤ s.size ∧ pre.length * 6 ≤ k ∧ Crc.Inv s.data.toList k pre ∧
      Own.Row wr w.heap.size 9 1 out pre.length (cellsOf pre) ∧ Below w.heap.size w wr) (fun _ i _ => s.size - (intOf i).toNat)
  case atStart => exact ⟨0, [], rfl, by omega, by simp, Crc.inv_start _, Own.Row.nil _ _ _ _, Below.refl _ _⟩
  case round =>
    obtain ⟨k, pre, rfl, hk, hpk, hinv, hrow, hb⟩ := hrel
    by_cases hlt : k < s.size
    · skip
      by_cases he : (Crc.nextR (s.data.toList.drop k)).2.2 = 0
      · have hn : Crc.next s.data.toList k = ((Crc.nextR (s.data.toList.drop k)).1, (((k + (Crc.nextR (s.data.toList.drop k)).2.1 : Nat)) : Int), 0) := by
          rw [Crc.next_tail _ _ (by omega), if_pos he]
          simp
        have hst := Crc.inv_step hinv (by omega) he
        have hz := Crc.nextR_size _ he
        rw [List.length_drop] at hz
        generalize (Crc.nextR (s.data.toList.drop k)).1 = x at *
        generalize (Crc.nextR (s.data.toList.drop k)).2.1 = m at *
        have HN := Lib.hid hn
        clear hn he
        have n1 : pre.length + 1 ≤ maxLen := by unfold maxLen; omega
        have n2 : (pre.length + 1) * 16 ≤ 140737488355328 := by omega
        go_wp2_with (first
          | (go_at_call 21
             refine (refNext_val _ _ _ hm HN.out).mono ?_
             rintro e w1 ⟨rfl, hb1⟩
             have hrow1 := hrow.below hb1
             have hbw : Below w.heap.size w w1 := hb.trans (hb1.mono hb.size))
          | (at_builtin
             refine Own.wpList_append_one _ rfl _ _ 37 rfl w.heap.size 9 i0 (.string ⟨#[]⟩) 16 Tryd.underlying37 hi hz0 hz1 hz2 rfl _ _ _ rfl hrow1 (.string ⟨x.toArray⟩) rfl rfl n1 n2 hbw.size ?_
             intro v' w2 hrow2 hg2 hb2))
        go_roundw
        case rel =>
          refine ⟨k + m, pre ++ [x], by go_num, by omega, by simp; omega, hst, ?_, hbw.trans hb2⟩
          rw [cellsOf_append, List.length_append]
          exact hrow2
        case measure => simp [intOf]; omega
      · have hn : Crc.next s.data.toList k = ([], 0, (Crc.nextR (s.data.toList.drop k)).2.2) := by
          rw [Crc.next_tail _ _ (by omega), if_neg he]
        have hbad := Crc.inv_bad hinv (by omega) he
        generalize (Crc.nextR (s.data.toList.drop k)).2.2 = er at *
        have hq : (er != 0) = true := by simp [he]
        have HN := Lib.hid hn
        have HB := Lib.hid hbad
        have hE := Lib.hid he
        clear hn hbad he
        go_wp2_with (go_at_call 21; refine (refNext_val _ _ _ hm HN.out).mono ?_; rintro e w1 ⟨rfl, hb1⟩)
        go_ret3
        have hr := hrow.below hb1
        rw [show cellsOf pre = cellsOf (Crc.decode s.data.toList).1 from by rw [HB.out]] at hr
        refine ⟨_, _, ?_, hr, hb.trans (hb1.mono hb.size)⟩
        unfold Crc.decOff
        rw [HB.out, if_neg hE.out]
        rfl
    · have hend := Crc.inv_end hinv (by omega)
      have HB := Lib.hid hend
      clear hend
      go_wp2
      go_ret3
      rw [show cellsOf pre = cellsOf (Crc.decode s.data.toList).1 from by rw [HB.out]] at hrow
      refine ⟨_, _, ?_, hrow, hb⟩
      unfold Crc.decOff
      rw [HB.out, if_pos rfl]
      rfl

end Go.Proofs.YtfgfphodpghgbaaDoor.FrameDec
