/- The reference's List and Count of a set return its bytes in order and their number. No condition. -/
import Derived.Test.YtncdcdgmmbcbfaaDoorCharList
namespace Go.Proofs.YtncdcdgmmbcbfaaDoor.CharRefList
open Go Go.RowKit CharHas CharOf CharList

theorem next_yes (p : Nat → Bool) (c : Nat) (h : p c = true) : Own.byteCells (lst p (c + 1)) = Own.byteCells (lst p c ++ [UInt8.ofNat c]) := by
  rw [lst_snoc p c c (by rw [Sets.upTo_succ, h]; rfl)]
theorem next_no (p : Nat → Bool) (c : Nat) (h : p c = false) : lst p (c + 1) = lst p c := by
  rw [lst_same p c (c + 1) (by rw [Sets.upTo_succ, h]; simp)]
theorem next_len (p : Nat → Bool) (c : Nat) (h : p c = true) : (lst p (c + 1)).length = (lst p c).length + 1 := by
  rw [lst_snoc p c c (by rw [Sets.upTo_succ, h]; rfl)]; simp
set_option maxHeartbeats 2000000 in
set_option maxRecDepth 100000 in
theorem refList_any (p : Nat → Bool) (w : World) :
    Calls Tryd.prog 16 #[.agg #[.int .u64 (Sets.wordOf p 0 : Nat), .int .u64 (Sets.wordOf p 1 : Nat), .int .u64 (Sets.wordOf p 2 : Nat), .int .u64 (Sets.wordOf p 3 : Nat)]] w
      fun e w' => e = .returned (.string ⟨(lst p 256).toArray⟩) ∧ Below w.heap.size w w' := by
  obtain ⟨i0, hi, hz0, hz1, hz2⟩ := info_parts byte_info
  go_enter Tryd.func16, Tryd.ntmps16
  go_wp2
  go_loopw [3, 4] (fun b i wr => ∃ c : Nat, c ≤ 256 ∧ i = .int .i64 c ∧ Var wr w.heap.size p ∧ Own.Row wr (w.heap.size + 1) 5 1 b (lst p c).length (Own.byteCells (lst p c)) ∧ Below w.heap.size w wr) (fun _ i _ => 256 - (intOf i).toNat)
  case atStart => exact ⟨0, by omega, rfl, Var.boxed w p, Own.Row.nil _ _ _ _, (Below.refl _ _).alloc (Nat.le_refl _) _⟩
  case round =>
    obtain ⟨c, hc, rfl, hv, hrow, hb⟩ := hrel
    by_cases hlt : c < 256
    · have cm : IntKind.u8.wrap (c : Int) = (c : Int) := by rw [IntKind.wrap_u8]; omega
      obtain ⟨c0, c1, c2, c3, -⟩ := hv.facts
      have hvl := hv.lt
      have HV := Lib.hid hv
      clear hv
      have hH := Lib.hid fun w => refHas_any p c w hlt
      have hll := lst_le p c
      have n1 : (lst p c).length + 1 ≤ maxLen := by unfold maxLen; omega
      have n2 : ((lst p c).length + 1) * 1 ≤ 140737488355328 := by omega
      by_cases hp : p c = true
      · have HN := Lib.hid (next_yes p c hp)
        have HL := Lib.hid (next_len p c hp)
        have HC := Lib.hid (cells_snoc (lst p c) c hlt)
        rw [hp] at hH
        generalize lst p c = l at *
        go_wp2_with (first
          | (go_at_call 14
             refine (hH.out _).mono ?_
             rintro e w1 ⟨rfl, hb1⟩
             have hrow0 := hrow.below hb1
             have hbw : Below w.heap.size w w1 := hb.trans (hb1.mono hb.size)
             have hv1 := Lib.hid (HV.out.below hb1 hvl)
             have hs1 : w.heap.size + 1 ≤ w1.heap.size := hv1.out.lt)
          | (at_builtin
             refine Own.wpList_append_one _ rfl _ _ 38 rfl (w.heap.size + 1) 5 i0 (.int .u8 0) 1 Tryd.underlying38 hi hz0 hz1 hz2 rfl _ _ _ rfl hrow0 _ rfl rfl n1 n2 hs1 ?_
             intro v' w2 hrow1 hg2 hb2))
        go_roundw
        case rel => exact ⟨c + 1, by omega, by go_num, hv1.out.below hb2 (by omega), by rw [HL.out, HN.out, HC.out]; exact hrow1, hbw.trans (hb2.mono (by omega))⟩
        case measure => simp [intOf]; omega
      · have hpf : p c = false := by simpa using hp
        have HN := Lib.hid (next_no p c hpf)
        rw [hpf] at hH
        go_wp2_with (go_at_call 14
                     refine (hH.out _).mono ?_
                     rintro e w1 ⟨rfl, hb1⟩
                     have hrow0 := hrow.below hb1
                     have hbw : Below w.heap.size w w1 := hb.trans (hb1.mono hb.size)
                     have hv1 := Lib.hid (HV.out.below hb1 hvl))
        go_roundw
        case rel => exact ⟨c + 1, by omega, by go_num, hv1.out, by rw [HN.out]; exact hrow0, hbw⟩
        case measure => simp [intOf]; omega
    · obtain rfl : c = 256 := by omega
      have hrc := hrow.run_str (P := Tryd.prog) 38 9 Tryd.underlying38 Tryd.underlying5 Tryd.underlying9
      go_wp2
      go_ret
      exact ⟨rfl, hb⟩
set_option maxHeartbeats 1000000 in
theorem refCount_any (p : Nat → Bool) (w : World) :
    Calls Tryd.prog 18 #[.agg #[.int .u64 (Sets.wordOf p 0 : Nat), .int .u64 (Sets.wordOf p 1 : Nat), .int .u64 (Sets.wordOf p 2 : Nat), .int .u64 (Sets.wordOf p 3 : Nat)]] w
      fun e w' => e = .returned (.int .i64 ((lst p 256).length : Nat)) ∧ Below w.heap.size w w' := by
  have hll := lst_le p 256
  have hsz : (⟨(lst p 256).toArray⟩ : ByteArray).size = (lst p 256).length := by simp [ByteArray.size]
  have hv := Var.boxed w p
  obtain ⟨c0, c1, c2, c3, -⟩ := hv.facts
  clear hv
  go_enter Tryd.func18, Tryd.ntmps18
  go_wp2_with (go_at_call 16
               refine (refList_any p _).mono ?_
               rintro e w1 ⟨rfl, hb1⟩)
  go_ret
  exact ⟨rfl, ((Below.refl _ _).alloc (Nat.le_refl _) _).trans (hb1.mono (by simp))⟩
end Go.Proofs.YtncdcdgmmbcbfaaDoor.CharRefList
