/- The reference's Words returns the words of a string, for strings of at most 2^40 bytes. -/
import Derived.Test.YtlnbkljajocfoaaTWords
namespace Go.Proofs.Ytlnbkljajocfoaa.TRefWords
open Go Go.RowKit Strs TWords

set_option maxHeartbeats 2000000 in
set_option maxRecDepth 100000 in
theorem refWords_any (s : ByteArray) (w : World) (hs : s.size ≤ 1099511627776) :
    Calls Try.prog 22 #[.string s] w (WPost w s.data.toList) := by
  have hsl : s.data.toList.length = s.size := by simp
  obtain ⟨i0, hi, hz0, hz1, hz2⟩ := info_parts str_info
  go_enter Try.func22, Try.ntmps22
  go_wp2
  go_loopw [3, 4, 5] (fun b f i wr => ∃ k : Nat, k ≤ s.size ∧ i = .int .i64 k ∧ f = .int .i64 (Wd.st s.data.toList k).2 ∧ Own.Row wr w.heap.size 9 1 b (Wd.st s.data.toList k).1.length (cellsOf (Wd.st s.data.toList k).1) ∧ Below w.heap.size w wr) (fun _ _ i _ => s.size - (intOf i).toNat)
  case atStart => exact ⟨0, Nat.zero_le _, rfl, rfl, Own.Row.nil _ _ _ _, Below.refl _ _⟩
  case round =>
    obtain ⟨k, hk, rfl, rfl, hrow, hb⟩ := hrel
    have hok := Wd.st_ok s.data.toList k
    obtain ⟨ho1, ho2, ho3⟩ := hok
    by_cases hlt : k < s.size
    · have hkl : k < s.data.toList.length := by omega
      have hge : s.data.toList.getD k 0 = s[k] := by
        rw [List.getD_eq_getElem?_getD, List.getElem?_eq_getElem hkl]; rfl
      have hst : Hid (Wd.st s.data.toList (k + 1) = if Wd.isSp s[k].toNat then Wd.fin s.data.toList (Wd.st s.data.toList k) k else if (Wd.st s.data.toList k).2 < 0 then ((Wd.st s.data.toList k).1, (k : Int)) else Wd.st s.data.toList k) := by
        rw [← hge]; rfl
      have hc : s[k].toNat < 256 := UInt8.toNat_lt _
      have hsp := Lib.hid fun w => refSpace_any s[k].toNat w hc
      have n1 : (Wd.st s.data.toList k).1.length + 1 ≤ maxLen := by unfold maxLen; omega
      have n2 : ((Wd.st s.data.toList k).1.length + 1) * 16 ≤ 140737488355328 := by omega
      clear hge
      cases hb' : Wd.isSp s[k].toNat with
      | true =>
        rw [hb'] at hsp hst
        by_cases hf : 0 ≤ (Wd.st s.data.toList k).2
        · obtain ⟨f, hfe⟩ : ∃ f : Nat, (Wd.st s.data.toList k).2 = (f : Int) := ⟨(Wd.st s.data.toList k).2.toNat, by omega⟩
          have hst2 : Hid (Wd.st s.data.toList (k + 1) = ((Wd.st s.data.toList k).1 ++ [Wd.cut s.data.toList (Wd.st s.data.toList k).2 k], -1)) := by
            rw [Hid, hst.out, if_pos rfl]; unfold Wd.fin; rw [if_pos hf]
          have hcut : (s.extract f k).data.toList = Wd.cut s.data.toList (Wd.st s.data.toList k).2 k := by
            rw [hfe, Lib.extract_data]; rfl
          generalize Wd.st s.data.toList k = p at *
          have hsl2 : ∀ W, (Instr.slice 9 (.string s) (some (.int .i64 (f : Int))) (some (.int .i64 (k : Int))) none).run Try.prog W = .ok (.string (s.extract f k)) W := fun W => run_slice_string W _ s .i64 .i64 _ _ Try.underlying9 (by omega) (by omega) (by omega)
          have hx : Hid (Value.string (s.extract f k) = .string ⟨(Wd.cut s.data.toList p.2 k).toArray⟩) := by
            show _ = _
            rw [← hcut]
          generalize s.extract f k = x at *
          rw [hfe]
          clear hst hcut
          go_wp2_with (first
            | (go_at_call 35
               (with_reducible refine (hsp.out _).mono ?_)
               rintro e w1 ⟨rfl, rfl⟩)
            | (at_builtin
               refine Own.wpList_append_one _ rfl _ _ 30 rfl w.heap.size 9 i0 (.string ⟨#[]⟩) 16 Try.underlying30 hi hz0 hz1 hz2 rfl _ _ _ rfl hrow _ rfl rfl n1 n2 hb.size ?_
               intro v' w1 hrow1 hg1 hb1))
          go_roundw
          case rel =>
            refine ⟨k + 1, by omega, by go_num, by rw [hst2.out], ?_, hb.trans hb1⟩
            rw [hst2.out]
            rw [hx.out] at hrow1
            simpa [cellsOf] using hrow1
          case measure => simp [intOf]; omega
        · have hst2 : Hid (Wd.st s.data.toList (k + 1) = ((Wd.st s.data.toList k).1, -1)) := by
            rw [Hid, hst.out, if_pos rfl]; unfold Wd.fin; rw [if_neg hf]
            have : (Wd.st s.data.toList k).2 = -1 := by omega
            rw [← this]
          generalize Wd.st s.data.toList k = p at *
          clear hst
          go_wp2_with (go_at_call 35
                       (with_reducible refine (hsp.out _).mono ?_)
                       rintro e w1 ⟨rfl, rfl⟩)
          go_roundw
          case rel => exact ⟨k + 1, by omega, by go_num, by rw [hst2.out], by rw [hst2.out]; exact hrow, hb⟩
          case measure => simp [intOf]; omega
      | false =>
        rw [hb'] at hsp hst
        by_cases hf : (Wd.st s.data.toList k).2 < 0
        · have hst2 : Hid (Wd.st s.data.toList (k + 1) = ((Wd.st s.data.toList k).1, (k : Int))) := by rw [Hid, hst.out, if_neg (by simp), if_pos hf]
          generalize Wd.st s.data.toList k = p at *
          clear hst
          go_wp2_with (go_at_call 35
                       (with_reducible refine (hsp.out _).mono ?_)
                       rintro e w1 ⟨rfl, rfl⟩)
          go_roundw
          case rel => exact ⟨k + 1, by omega, by go_num, by rw [hst2.out], by rw [hst2.out]; exact hrow, hb⟩
          case measure => simp [intOf]; omega
        · have hst2 : Hid (Wd.st s.data.toList (k + 1) = Wd.st s.data.toList k) := by rw [Hid, hst.out, if_neg (by simp), if_neg hf]
          generalize Wd.st s.data.toList k = p at *
          clear hst
          go_wp2_with (go_at_call 35
                       (with_reducible refine (hsp.out _).mono ?_)
                       rintro e w1 ⟨rfl, rfl⟩)
          go_roundw
          case rel => exact ⟨k + 1, by omega, by go_num, by rw [hst2.out], by rw [hst2.out]; exact hrow, hb⟩
          case measure => simp [intOf]; omega
    · obtain rfl : k = s.size := by omega
      have n1 : (Wd.st s.data.toList s.size).1.length + 1 ≤ maxLen := by unfold maxLen; omega
      have n2 : ((Wd.st s.data.toList s.size).1.length + 1) * 16 ≤ 140737488355328 := by omega
      have hw : Hid (Wd.words s.data.toList = (Wd.fin s.data.toList (Wd.st s.data.toList s.size) s.size).1) := by unfold Hid Wd.words; rw [hsl]
      by_cases hf : 0 ≤ (Wd.st s.data.toList s.size).2
      · obtain ⟨f, hfe⟩ : ∃ f : Nat, (Wd.st s.data.toList s.size).2 = (f : Int) := ⟨(Wd.st s.data.toList s.size).2.toNat, by omega⟩
        have hst2 : Hid (Wd.words s.data.toList = (Wd.st s.data.toList s.size).1 ++ [Wd.cut s.data.toList (Wd.st s.data.toList s.size).2 s.size]) := by
          rw [Hid, hw.out]; unfold Wd.fin; rw [if_pos hf]
        have hcut : (s.extract f s.size).data.toList = Wd.cut s.data.toList (Wd.st s.data.toList s.size).2 s.size := by
          rw [hfe, Lib.extract_data]; rfl
        generalize Wd.st s.data.toList s.size = p at *
        have hsl2 : ∀ W, (Instr.slice 9 (.string s) (some (.int .i64 (f : Int))) none none).run Try.prog W = .ok (.string (s.extract f s.size)) W := fun W => run_slice_string_l W _ s Try.underlying9 .i64 _ (by omega) (by omega)
        have hx : Hid (Value.string (s.extract f s.size) = .string ⟨(Wd.cut s.data.toList p.2 s.size).toArray⟩) := by
          show _ = _
          rw [← hcut]
        generalize s.extract f s.size = x at *
        rw [hfe]
        clear hw hcut
        go_wp2_with (at_builtin
                     refine Own.wpList_append_one _ rfl _ _ 30 rfl w.heap.size 9 i0 (.string ⟨#[]⟩) 16 Try.underlying30 hi hz0 hz1 hz2 rfl _ _ _ rfl hrow _ rfl rfl n1 n2 hb.size ?_
                     intro v' w1 hrow1 hg1 hb1)
        go_ret
        refine ⟨v', rfl, ?_, hb.trans hb1⟩
        rw [hst2.out]
        rw [hx.out] at hrow1
        simpa [cellsOf] using hrow1
      · have hst2 : Hid (Wd.words s.data.toList = (Wd.st s.data.toList s.size).1) := by
          rw [Hid, hw.out]; unfold Wd.fin; rw [if_neg hf]
        generalize Wd.st s.data.toList s.size = p at *
        clear hw
        go_wp2
        go_ret
        exact ⟨_, rfl, by rw [hst2.out]; exact hrow, hb⟩
end Go.Proofs.Ytlnbkljajocfoaa.TRefWords
