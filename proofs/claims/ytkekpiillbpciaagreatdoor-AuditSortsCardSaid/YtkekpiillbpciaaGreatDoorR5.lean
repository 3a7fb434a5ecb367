/- KSmall; KDict: merged into one text: lemmas for the walk of the law. No condition. -/
import Derived.Test.YtkekpiillbpciaaGreatDoorM7
import Derived.Test.YtkekpiillbpciaaGreatDoorM8
import Derived.Test.YtkekpiillbpciaaGreatDoorM6
import Derived.Deep.RegionWith
import Derived.Test.YtkekpiillbpciaaGreatDoorR2
/- Small functions of both sides: signs, blanks, flags. -/
namespace Go.Proofs.YtkekpiillbpciaaGreatDoor.KSmall
open Go Go.RowKit KeyMath ScanMath KLoc Strs KNum
set_option maxRecDepth 100000
theorem blank_val (b : UInt8) : isBlank b = (((b.toNat : Int) == 32) || ((b.toNat : Int) == 9)) := by
  unfold isBlank
  rw [Bool.eq_iff_iff]
  simp only [Bool.or_eq_true, beq_iff_eq, ← UInt8.toNat_inj]
  simp
  omega
set_option maxHeartbeats 1000000 in
theorem blank_any (b : UInt8) (w : World) :
    Calls Tryz.prog 141 #[.int .u8 (b.toNat : Int)] w fun e w' => e = .returned (.bool (isBlank b)) ∧ w = w' := by
  rw [blank_val]
  go_enter Tryz.func141, Tryz.ntmps141
  go_wp2
  all_goals
    go_ret
    refine ⟨ret_bool ?_, rfl⟩
    simp_all
set_option maxHeartbeats 1000000 in
theorem refBlank_any (b : UInt8) (w : World) :
    Calls Tryz.prog 149 #[.int .u8 (b.toNat : Int)] w fun e w' => e = .returned (.bool (isBlank b)) ∧ w = w' := by
  rw [blank_val]
  go_enter Tryz.func149, Tryz.ntmps149
  go_wp2
  all_goals
    go_ret
    refine ⟨ret_bool ?_, rfl⟩
    simp_all
set_option maxHeartbeats 1000000 in
theorem sign_any (a b : Int) (w : World) :
    Calls Tryz.prog 91 #[.int .i64 a, .int .i64 b] w fun e w' => e = .returned (.int .i64 (sgn a b)) ∧ w = w' := by
  unfold sgn
  go_enter Tryz.func91, Tryz.ntmps91
  go_wp2
  all_goals
    go_ret
    refine ⟨ret_int ?_, rfl⟩
    simp_all
set_option maxHeartbeats 2000000 in
theorem numbers_any (s t : ByteArray) (w : World) (hs : s.size ≤ maxLen) (ht : t.size ≤ maxLen) :
    Calls Tryz.prog 103 #[.string s, .string t] w fun e w' => e = .returned (.int .i64 (sgn (num s.data.toList) (num t.data.toList))) ∧ w = w' := by
  have HS := Lib.hid (fun W => refPrefix_any s W hs)
  have HT := Lib.hid (fun W => refPrefix_any t W ht)
  clear hs ht
  generalize hns : num s.data.toList = a
  generalize hnt : num t.data.toList = b
  unfold sgn
  go_enter Tryz.func103, Tryz.ntmps103
  go_wp2_with (first
    | (go_at_call_of 148 (Value.string s); (with_reducible refine (HS.out _).mono ?_); rintro e w2 ⟨z, rfl, rfl⟩; rw [hns])
    | (go_at_call_of 148 (Value.string t); (with_reducible refine (HT.out _).mono ?_); rintro e w2 ⟨z2, rfl, rfl⟩; rw [hnt]))
  all_goals
    go_ret
    refine ⟨ret_int ?_, rfl⟩
    simp_all
set_option maxHeartbeats 1000000 in
theorem most_any (a b : Int) (w : World) :
    Calls Tryz.prog 106 #[.int .i64 a, .int .i64 b] w fun e w' => e = .returned (.int .i64 (max a b)) ∧ w = w' := by
  go_enter Tryz.func106, Tryz.ntmps106
  go_wp2
  all_goals
    go_ret
    refine ⟨ret_int ?_, rfl⟩
    omega
set_option maxHeartbeats 1000000 in
theorem least_any (a b : Int) (w : World) :
    Calls Tryz.prog 107 #[.int .i64 a, .int .i64 b] w fun e w' => e = .returned (.int .i64 (min a b)) ∧ w = w' := by
  go_enter Tryz.func107, Tryz.ntmps107
  go_wp2
  all_goals
    go_ret
    refine ⟨ret_int ?_, rfl⟩
    omega
set_option maxHeartbeats 1000000 in
theorem has_1 (n : Nat) (hn : n ≤ 31) (w : World) :
    Calls Tryz.prog 68 #[.int .i64 (n : Int), .int .i64 1] w fun e w' => e = .returned (.bool (has 1 (n : Int))) ∧ w = w' := by
  have hv : has 1 (n : Int) = ((n : Int) / 1 % 2 == 1) := by
    unfold has
    rw [Bool.eq_iff_iff]
    simp
    omega
  rw [hv]
  go_enter Tryz.func68, Tryz.ntmps68
  go_wp2
  go_ret
  exact ⟨by simp, rfl⟩
set_option maxHeartbeats 1000000 in
theorem has_2 (n : Nat) (hn : n ≤ 31) (w : World) :
    Calls Tryz.prog 68 #[.int .i64 (n : Int), .int .i64 2] w fun e w' => e = .returned (.bool (has 2 (n : Int))) ∧ w = w' := by
  have hv : has 2 (n : Int) = ((n : Int) / 2 % 2 == 1) := by
    unfold has
    rw [Bool.eq_iff_iff]
    simp
    omega
  rw [hv]
  go_enter Tryz.func68, Tryz.ntmps68
  go_wp2
  go_ret
  exact ⟨by rfl, rfl⟩
set_option maxHeartbeats 1000000 in
theorem has_4 (n : Nat) (hn : n ≤ 31) (w : World) :
    Calls Tryz.prog 68 #[.int .i64 (n : Int), .int .i64 4] w fun e w' => e = .returned (.bool (has 4 (n : Int))) ∧ w = w' := by
  have hv : has 4 (n : Int) = ((n : Int) / 4 % 2 == 1) := by
    unfold has
    rw [Bool.eq_iff_iff]
    simp
    omega
  rw [hv]
  go_enter Tryz.func68, Tryz.ntmps68
  go_wp2
  go_ret
  exact ⟨by rfl, rfl⟩
set_option maxHeartbeats 1000000 in
theorem has_8 (n : Nat) (hn : n ≤ 31) (w : World) :
    Calls Tryz.prog 68 #[.int .i64 (n : Int), .int .i64 8] w fun e w' => e = .returned (.bool (has 8 (n : Int))) ∧ w = w' := by
  have hv : has 8 (n : Int) = ((n : Int) / 8 % 2 == 1) := by
    unfold has
    rw [Bool.eq_iff_iff]
    simp
    omega
  rw [hv]
  go_enter Tryz.func68, Tryz.ntmps68
  go_wp2
  go_ret
  exact ⟨by rfl, rfl⟩
set_option maxHeartbeats 1000000 in
theorem has_16 (n : Nat) (hn : n ≤ 31) (w : World) :
    Calls Tryz.prog 68 #[.int .i64 (n : Int), .int .i64 16] w fun e w' => e = .returned (.bool (has 16 (n : Int))) ∧ w = w' := by
  have hv : has 16 (n : Int) = ((n : Int) / 16 % 2 == 1) := by
    unfold has
    rw [Bool.eq_iff_iff]
    simp
    omega
  rw [hv]
  go_enter Tryz.func68, Tryz.ntmps68
  go_wp2
  go_ret
  exact ⟨by rfl, rfl⟩
end Go.Proofs.YtkekpiillbpciaaGreatDoor.KSmall

/- The bytes that count in a dictionary: what the reference's dict returns. Strings of at most 65536 bytes. -/
namespace Go.Proofs.YtkekpiillbpciaaGreatDoor.KDict
open Go Go.RowKit KeyMath ScanMath KLoc Strs KNum KMap KSmall
set_option maxRecDepth 100000
theorem counts_val (b : UInt8) : counts b = true ↔ isBlank b = true ∨ (48 ≤ (b.toNat : Int) ∧ (b.toNat : Int) ≤ 57) ∨ (97 ≤ (b.toNat : Int) ∧ (b.toNat : Int) ≤ 122) ∨ (65 ≤ (b.toNat : Int) ∧ (b.toNat : Int) ≤ 90) := by
  unfold counts digit
  generalize isBlank b = q
  simp only [Bool.or_eq_true, Bool.and_eq_true, decide_eq_true_eq, UInt8.le_iff_toNat_le]
  cases q <;> simp <;> omega
theorem filter_yes {l : List UInt8} {k : Nat} {x : UInt8} (h : l[k]? = some x) (hc : counts x = true) : Own.byteCells ((l.take (k + 1)).filter counts) = Own.byteCells ((l.take k).filter counts) ++ [.int .u8 (x.toNat : Int)] := by
  rw [List.take_add_one, h]
  simp [Own.byteCells, hc]
theorem filter_no {l : List UInt8} {k : Nat} {x : UInt8} (h : l[k]? = some x) (hc : counts x = false) : Own.byteCells ((l.take (k + 1)).filter counts) = Own.byteCells ((l.take k).filter counts) := by
  rw [List.take_add_one, h]
  simp [hc]
set_option maxHeartbeats 4000000 in
theorem refDict_any (s : ByteArray) (w : World) (hs : s.size ≤ 65536) :
    Calls Tryz.prog 150 #[.string s] w fun e w' => e = .returned (.string ⟨(s.data.toList.filter counts).toArray⟩) ∧ Below w.heap.size w w' := by
  obtain ⟨i0, hi, hz0, hz1, hz2⟩ := info_parts byte_info
  have hss : s.data.toList.length = s.size := len_eq s
  have HBL := Lib.hid refBlank_any
  go_enter Tryz.func150, Tryz.ntmps150
  go_wp2
  go_loopw [3, 4] (fun o i wr => ∃ k m : Nat, k ≤ s.size ∧ m ≤ k ∧ i = .int .i64 k ∧ Own.Row wr w.heap.size 5 1 o m (Own.byteCells ((s.data.toList.take k).filter counts)) ∧ Below w.heap.size w wr) (fun _ i _ => s.size - (intOf i).toNat)
  case atStart => exact ⟨0, 0, Nat.zero_le _, Nat.zero_le _, rfl, Own.Row.nil _ _ _ _, Below.refl _ _⟩
  case round =>
    obtain ⟨k, m, hk, hm, rfl, hrow, hb⟩ := hrel
    by_cases hlt : k < s.size
    · have hx := Lib.hid (at_some s hlt)
      have hlt' : (k : Int) < (s.size : Int) := by omega
      have n1 : m + 1 ≤ maxLen := by unfold maxLen; omega
      have n2 : (m + 1) * 1 ≤ 140737488355328 := by omega
      have hbs := hb.size
      have hbl := HBL.out s[k]
      have HCV := Lib.hid (counts_val s[k])
      generalize isBlank s[k] = q at *
      cases q
      all_goals
        go_wp2_with (first
          | (go_at_call 149; (with_reducible refine (hbl _).mono ?_); rintro e w2 ⟨rfl, rfl⟩)
          | (at_builtin
             refine Own.wpList_append_one _ rfl _ _ 69 rfl w.heap.size 5 i0 (.int .u8 0) 1 Tryz.underlying69 hi hz0 hz1 hz2 rfl _ _ _ rfl hrow _ rfl rfl n1 n2 hbs ?_
             intro v' w1 hrow1 hg1 hb1))
      all_goals
        go_roundw
        case rel => first
          | exact ⟨k + 1, m + 1, by omega, by omega, by go_num, by rw [filter_yes hx.out (HCV.out.2 (by first | exact .inl trivial | exact .inl rfl | (right; omega)))]; exact hrow1, hb.trans hb1⟩
          | exact ⟨k + 1, m, by omega, by omega, by go_num, by rw [filter_no hx.out (by rcases hcc : counts s[k] with _ | _; rfl; have := HCV.out.1 hcc; simp at this; omega)]; exact hrow, hb⟩
        case measure => simp [intOf]; omega
    · obtain rfl : k = s.size := by omega
      have e : s.data.toList.take s.size = s.data.toList := List.take_of_length_le (by rw [hss]; exact Nat.le_refl _)
      rw [e] at hrow
      have hrc := hrow.run_str (P := Tryz.prog) 69 9 Tryz.underlying69 Tryz.underlying5 Tryz.underlying9
      clear hrow
      go_wp2
      go_ret
      exact ⟨rfl, hb⟩
end Go.Proofs.YtkekpiillbpciaaGreatDoor.KDict
