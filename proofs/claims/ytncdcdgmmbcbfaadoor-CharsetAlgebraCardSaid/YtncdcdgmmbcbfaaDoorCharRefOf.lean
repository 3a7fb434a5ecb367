/- The reference's Of, and both Range, return the set of the bytes of a string, or of the bytes between two. No condition. -/
import Derived.Test.YtncdcdgmmbcbfaaDoorCharOf
namespace Go.Proofs.YtncdcdgmmbcbfaaDoor.CharRefOf
open Go Go.RowKit CharHas CharWith CharOf

set_option maxHeartbeats 1000000 in
theorem refOf_any (s : ByteArray) (w : World) (hs : s.size ≤ maxLen) :
    Calls Tryd.prog 10 #[.string s] w
      fun e w' => e = .returned (.agg #[.int .u64 (Sets.wordOf (memP s.data.toList) 0 : Nat), .int .u64 (Sets.wordOf (memP s.data.toList) 1 : Nat), .int .u64 (Sets.wordOf (memP s.data.toList) 2 : Nat), .int .u64 (Sets.wordOf (memP s.data.toList) 3 : Nat)]) ∧ Below w.heap.size w w' := by
  unfold maxLen at hs
  go_enter Tryd.func10, Tryd.ntmps10
  go_wp2
  go_loopw [4] (fun i wr => ∃ k : Nat, k ≤ s.size ∧ i = .int .i64 k ∧ Var wr w.heap.size (fun _ => false) ∧ Var wr (w.heap.size + 1) (memP (s.data.toList.take k)) ∧ Below w.heap.size w wr) (fun i _ => s.size - (intOf i).toNat)
  case atStart => exact ⟨0, Nat.zero_le _, rfl, (Var.two_fresh w).1, (Var.two_fresh w).2, ((Below.refl _ _).alloc (Nat.le_refl _) _).alloc (by simp) _⟩
  case round =>
    obtain ⟨k, hk, rfl, hv, hu, hb⟩ := hrel
    by_cases hlt : k < s.size
    · have hst : Hid (memP (s.data.toList.take (k + 1)) = Sets.ins (memP (s.data.toList.take k)) (Base.byteAt s k)) := by
        unfold Hid
        rw [List.take_succ_eq_append_getElem (by simpa using hlt), memP_snoc]
        congr 1
        simp [Base.byteAt, List.getD_eq_getElem?_getD, hlt]
      have i0 : ∀ W, (Instr.index 9 (.string s) (.int .i64 (k : Int))).run Tryd.prog W = .ok (.int .u8 (Base.byteAt s k)) W := Base.run_byte _ Tryd.underlying9 s .i64 k (by omega) (by omega)
      have hc := Base.byteAt_lt s k
      generalize Base.byteAt s k = c at *
      generalize memP (s.data.toList.take k) = p at *
      obtain ⟨c0, c1, c2, c3, -⟩ := hu.facts
      have hlt1 := hu.lt
      have HU := Lib.hid hu
      have HV := Lib.hid hv
      clear hu hv
      go_wp2
      go_region_with (go_at_call 27
                      refine (with_any p c _ hc).mono ?_
                      rintro e w1 ⟨rfl, hb1⟩
                      have hu1 : Var w1 (w.heap.size + 1) p := HU.out.drew.below hb1 hlt1
                      have hv1 : Var w1 w.heap.size (fun _ => false) := HV.out.drew.below hb1 HV.out.lt
                      obtain ⟨d0, d1, d2, d3, f0, f1, f2, f3⟩ := hu1.facts
                      have hl1 := hu1.lt
                      have HU1 := Lib.hid hu1
                      have HV1 := Lib.hid hv1
                      clear hu1 hv1)
      all_goals
        go_wp2
        go_roundw
        case rel =>
          refine ⟨k + 1, by omega, by go_num, (((HV1.out.far (by simp) _).far (by simp) _).far (by simp) _).far (by simp) _, by rw [hst.out]; exact HU1.out.store (Sets.ins p c), ?_⟩
          exact (((((hb.drew.trans (hb1.mono hb.size)).setCell (p := ⟨_, 0, none⟩) (by simp) _).setCell (p := ⟨_, 1, none⟩) (by simp) _).setCell (p := ⟨_, 2, none⟩) (by simp) _).setCell (p := ⟨_, 3, none⟩) (by simp) _)
        case measure => simp [intOf]; omega
    · obtain rfl : k = s.size := by omega
      have htk : Hid (s.data.toList.take s.size = s.data.toList) := List.take_of_length_le (Nat.le_refl _)
      rw [htk.out] at hu
      obtain ⟨c0, c1, c2, c3, -⟩ := hu.facts
      obtain ⟨d0, d1, d2, d3, f0, f1, f2, f3⟩ := hv.facts
      have hl1 := hu.lt
      have hl0 := hv.lt
      clear hu hv
      go_wp2
      refine bodyPost_ret (v := .agg #[.int .u64 (Sets.wordOf (memP s.data.toList) 0 : Nat), .int .u64 (Sets.wordOf (memP s.data.toList) 1 : Nat), .int .u64 (Sets.wordOf (memP s.data.toList) 2 : Nat), .int .u64 (Sets.wordOf (memP s.data.toList) 3 : Nat)]) ?_ rfl ⟨rfl, ?_⟩
      · clear hb htk
        simp [results, Tryd.results10, go_sem, d0, d1, d2, d3]
      exact (((hb.setCell (p := ⟨_, 0, none⟩) (Nat.le_refl _) _).setCell (p := ⟨_, 1, none⟩) (Nat.le_refl _) _).setCell (p := ⟨_, 2, none⟩) (Nat.le_refl _) _).setCell (p := ⟨_, 3, none⟩) (Nat.le_refl _) _
end Go.Proofs.YtncdcdgmmbcbfaaDoor.CharRefOf
