/- charset.Count, charset.List and the reference's return a set's bytes in order and their number; the library's table must hold its sixty-four numbers. -/
import Derived.Test.YtncdcdgmmbcbfaaDoorCharOf
import Derived.Test.YtncdcdgmmbcbfaaDoorCharTz
import Derived.Test.YtncdcdgmmbcbfaaDoorCharOnes
import Derived.Test.YtncdcdgmmbcbfaaDoorOwn
namespace Go.Proofs.YtncdcdgmmbcbfaaDoor.CharList
open Go Go.RowKit CharHas CharOf CharTz CharOnes

/-- the bytes below n of a set, in order -/
def lst (p : Nat → Bool) (n : Nat) : List UInt8 := (Sets.upTo p n).map UInt8.ofNat
theorem lst_length (p : Nat → Bool) (n : Nat) : (lst p n).length = (Sets.upTo p n).length := by simp [lst]
theorem lst_le (p : Nat → Bool) (n : Nat) : (lst p n).length ≤ n := by rw [lst_length]; exact Sets.upTo_length_le p n
theorem Var.boxed (w : World) (p : Nat → Bool) : Var (w.alloc (.cells #[.int .u64 (Sets.wordOf p 0 : Nat), .int .u64 (Sets.wordOf p 1 : Nat), .int .u64 (Sets.wordOf p 2 : Nat), .int .u64 (Sets.wordOf p 3 : Nat)] 26)) w.heap.size p := heap_alloc_new w _
theorem index_at (p : Nat → Bool) (k : Nat) (hk : k < 4) (w : World) :
    (Instr.index 24 (.agg #[.int .u64 (Sets.wordOf p 0 : Nat), .int .u64 (Sets.wordOf p 1 : Nat), .int .u64 (Sets.wordOf p 2 : Nat), .int .u64 (Sets.wordOf p 3 : Nat)]) (.int .i64 (k : Int))).run Tryd.prog w = .ok (.int .u64 (Sets.wordOf p k : Nat)) w := by
  have : k = 0 ∨ k = 1 ∨ k = 2 ∨ k = 3 := by omega
  rcases this with rfl | rfl | rfl | rfl <;> rfl

set_option maxHeartbeats 1000000 in
theorem count_any (p : Nat → Bool) (w : World) :
    Calls Tryd.prog 17 #[.agg #[.int .u64 (Sets.wordOf p 0 : Nat), .int .u64 (Sets.wordOf p 1 : Nat), .int .u64 (Sets.wordOf p 2 : Nat), .int .u64 (Sets.wordOf p 3 : Nat)]] w
      fun e w' => e = .returned (.int .i64 ((lst p 256).length : Nat)) ∧ Below w.heap.size w w' := by
  have hix := index_at p
  go_enter Tryd.func17, Tryd.ntmps17
  go_wp2
  go_loopw [3, 5, 8] (fun n _ i wr => ∃ k : Nat, k ≤ 4 ∧ i = .int .i64 k ∧ n = .int .i64 ((Sets.upTo p (64 * k)).length : Nat) ∧ Below w.heap.size w wr) (fun _ _ i _ => 4 - (intOf i).toNat)
  case atStart => exact ⟨0, by omega, rfl, rfl, (Below.refl _ _).alloc (Nat.le_refl _) _⟩
  case round =>
    obtain ⟨k, hk, rfl, rfl, hb⟩ := hrel
    by_cases hlt : k < 4
    · have hx := hix k hlt
      have hup := Lib.hid (Sets.upTo_word p k)
      have hwl := Sets.wordOf_lt p k
      have hl := Sets.upTo_length_le p (64 * k)
      have hl2 := Sets.pop_le 64 (Sets.wordOf p k)
      generalize Sets.wordOf p k = x at *
      have hw := Lib.hid fun w => ones_any x w hwl
      generalize Sets.pop 64 x = y at *
      clear hwl hix
      have hlt' : (k : Int) < 4 := by omega
      go_wp2_with (go_at_call 29
                   refine (hw.out _).mono ?_
                   rintro e w1 ⟨rfl, rfl⟩)
      go_roundw
      case rel => exact ⟨k + 1, by omega, by go_num, by rw [hup.out]; go_num, hb⟩
      case measure => simp [intOf]; omega
    · obtain rfl : k = 4 := by omega
      go_wp2
      go_ret
      exact ⟨by rw [lst_length]; rfl, hb⟩

theorem byte_info : (Tryd.prog.info? 5).map (fun i => (i.zero, i.size, i.bytes)) = some (some (.int .u8 0), 1, 1) := by kernel_rfl
theorem lst_snoc (p : Nat → Bool) (m c : Nat) (h : Sets.upTo p (c + 1) = Sets.upTo p m ++ [c]) : lst p (c + 1) = lst p m ++ [UInt8.ofNat c] := by
  simp [lst, h]
theorem lst_same (p : Nat → Bool) (m c : Nat) (h : Sets.upTo p c = Sets.upTo p m) : lst p c = lst p m := by
  simp [lst, h]
theorem cells_snoc (l : List UInt8) (c : Nat) (hc : c < 256) : Own.byteCells (l ++ [UInt8.ofNat c]) = Own.byteCells l ++ [.int .u8 (c : Int)] := by
  simp [Own.byteCells]
  omega
theorem and_less (x : Nat) (h : x ≠ 0) : x &&& (x - 1) < x := Nat.lt_of_le_of_lt Nat.and_le_right (by omega)
set_option maxHeartbeats 2000000 in
set_option maxRecDepth 100000 in
theorem list_any (p : Nat → Bool) (w : World) (hT : TzHeld w) :
    Calls Tryd.prog 15 #[.agg #[.int .u64 (Sets.wordOf p 0 : Nat), .int .u64 (Sets.wordOf p 1 : Nat), .int .u64 (Sets.wordOf p 2 : Nat), .int .u64 (Sets.wordOf p 3 : Nat)]] w
      fun e w' => e = .returned (.string ⟨(lst p 256).toArray⟩) ∧ Below w.heap.size w w' := by
  have hix := index_at p
  obtain ⟨i0, hi, hz0, hz1, hz2⟩ := info_parts byte_info
  go_enter Tryd.func15, Tryd.ntmps15
  go_wp2
  go_loopw [3, 4, 5, 8] (fun b _ _ i wr => ∃ k : Nat, k ≤ 4 ∧ i = .int .i64 k ∧ Own.Row wr w.heap.size 5 1 b (lst p (64 * k)).length (Own.byteCells (lst p (64 * k))) ∧ Below w.heap.size w wr) (fun _ _ _ i _ => 4 - (intOf i).toNat)
  case atStart => exact ⟨0, by omega, rfl, Own.Row.nil _ _ _ _, (Below.refl _ _).alloc (Nat.le_refl _) _⟩
  case round =>
    obtain ⟨k, hk, rfl, hrow, hb⟩ := hrel
    by_cases hlt : k < 4
    · have hx := hix k hlt
      have hrest := Lib.hid (Sets.rest_start p k)
      generalize Sets.wordOf p k = x0 at *
      clear hix
      have hlt' : (k : Int) < 4 := by omega
      go_wp2
      go_loopw [3, 5] (fun b x wr => ∃ (m y : Nat), x = .int .u64 y ∧ Sets.Rest p k m y ∧ Own.Row wr w.heap.size 5 1 b (lst p m).length (Own.byteCells (lst p m)) ∧ Below w.heap.size w wr) (fun _ x _ => (intOf x).toNat)
      case atStart => exact ⟨64 * k, x0, rfl, hrest.out, hrow, hb⟩
      case round =>
        obtain ⟨m, y, rfl, hre, hrow, hb⟩ := hrel
        by_cases hy : y = 0
        · subst hy
          have he := lst_same p _ _ (Sets.rest_end p k m hre)
          have HE := Lib.hid he
          clear he hrest hre
          go_wp2
          go_roundw
          case rel => exact ⟨k + 1, by omega, by go_num, by rw [HE.out]; exact hrow, hb⟩
          case measure => simp [intOf]; omega
        · have hylt := hre.2.2.1
          have hml : m ≤ 256 := by have := hre.2.1; omega
          obtain ⟨q, d, hq, hyd⟩ := split y hy hylt
          have hst := Sets.rest_step p k m q d hq (by rw [← hyd]; exact hre)
          rw [← hyd] at hst
          obtain ⟨hre2, hup⟩ := hst
          have HL := Lib.hid (lst_snoc p m (64 * k + q) hup)
          have HR := Lib.hid hre2
          have hll := lst_le p m
          have HC := Lib.hid (cells_snoc (lst p m) (64 * k + q) (by omega))
          have htz := Lib.hid fun w hT => tz_any y q d w hq hyd hylt hT
          have HT := Lib.hid (hT.below hb)
          have hne : ((y : Int) == 0) = false := by simp; omega
          have ha : bits .and .u64 (y : Int) ((y : Int) - 1) = ((y &&& (y - 1) : Nat) : Int) := by
            rw [show (y : Int) - 1 = ((y - 1 : Nat) : Int) from by omega]; exact u64_and_nat _ _ hylt (by omega)
          have hless := Lib.hid (and_less y hy)
          generalize y &&& (y - 1) = y2 at *
          generalize lst p m = l at *
          clear hrest hre hre2 hup hyd hT
          have n1 : l.length + 1 ≤ maxLen := by unfold maxLen; omega
          have n2 : (l.length + 1) * 1 ≤ 140737488355328 := by omega
          go_wp2_with (first
            | (go_at_call 28
               refine (htz.out _ HT.out).mono ?_
               rintro e w1 ⟨rfl, rfl⟩)
            | (at_builtin
               refine Own.wpList_append_one _ rfl _ _ 38 rfl w.heap.size 5 i0 (.int .u8 0) 1 Tryd.underlying38 hi hz0 hz1 hz2 rfl _ _ _ rfl hrow _ rfl rfl n1 n2 hb.size ?_
               intro v' w1 hrow1 hg1 hb1))
          go_roundw
          case rel => exact ⟨64 * k + q + 1, y2, by go_num, HR.out, by rw [HL.out, HC.out]; simpa using hrow1, hb.trans hb1⟩
          case measure => have := hless.out; simp [intOf]; omega
    · obtain rfl : k = 4 := by omega
      have hrc := hrow.run_str (P := Tryd.prog) 38 9 Tryd.underlying38 Tryd.underlying5 Tryd.underlying9
      clear hix
      go_wp2
      go_ret
      exact ⟨rfl, hb⟩
end Go.Proofs.YtncdcdgmmbcbfaaDoor.CharList
