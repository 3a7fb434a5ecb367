/- The examples of the chapter hold: awake returns true; the library's table must hold its sixty-four numbers. -/
import Derived.Test.YtncdcdgmmbcbfaaDoorCharRefOps
import Derived.Test.YtncdcdgmmbcbfaaDoorCharRefList
namespace Go.Proofs.YtncdcdgmmbcbfaaDoor.CharAwake
open Go Go.RowKit CharHas CharWith CharOf CharRefOf CharRange CharOps CharTz CharList

def cabc : Nat → Bool := memP [99, 97, 98, 99]
theorem of_cabc (w : World) : Calls Tryd.prog 9 #[.string ⟨#[99, 97, 98, 99]⟩] w fun e w' => e = .returned (.agg #[.int .u64 (Sets.wordOf cabc 0 : Nat), .int .u64 (Sets.wordOf cabc 1 : Nat), .int .u64 (Sets.wordOf cabc 2 : Nat), .int .u64 (Sets.wordOf cabc 3 : Nat)]) ∧ Below w.heap.size w w' :=
  of_any ⟨#[99, 97, 98, 99]⟩ w (by decide)
theorem list_cabc (w : World) (hT : TzHeld w) : Calls Tryd.prog 15 #[.agg #[.int .u64 (Sets.wordOf cabc 0 : Nat), .int .u64 (Sets.wordOf cabc 1 : Nat), .int .u64 (Sets.wordOf cabc 2 : Nat), .int .u64 (Sets.wordOf cabc 3 : Nat)]] w fun e w' => e = .returned (.string ⟨#[97, 98, 99]⟩) ∧ Below w.heap.size w w' := by
  have h := list_any cabc w hT
  rwa [show lst cabc 256 = [97, 98, 99] from by decide +kernel] at h
theorem count_cabc (w : World) : Calls Tryd.prog 17 #[.agg #[.int .u64 (Sets.wordOf cabc 0 : Nat), .int .u64 (Sets.wordOf cabc 1 : Nat), .int .u64 (Sets.wordOf cabc 2 : Nat), .int .u64 (Sets.wordOf cabc 3 : Nat)]] w fun e w' => e = .returned (.int .i64 3) ∧ Below w.heap.size w w' := by
  have h := count_any cabc w
  rwa [show lst cabc 256 = [97, 98, 99] from by decide +kernel] at h
theorem range_za (w : World) : Calls Tryd.prog 11 #[.int .u8 122, .int .u8 97] w fun e w' => e = .returned (.agg #[.int .u64 (Sets.wordOf (rng 122 98) 0 : Nat), .int .u64 (Sets.wordOf (rng 122 98) 1 : Nat), .int .u64 (Sets.wordOf (rng 122 98) 2 : Nat), .int .u64 (Sets.wordOf (rng 122 98) 3 : Nat)]) ∧ Below w.heap.size w w' :=
  range_any 122 97 w (by decide) (by decide)
theorem count_za (w : World) : Calls Tryd.prog 17 #[.agg #[.int .u64 (Sets.wordOf (rng 122 98) 0 : Nat), .int .u64 (Sets.wordOf (rng 122 98) 1 : Nat), .int .u64 (Sets.wordOf (rng 122 98) 2 : Nat), .int .u64 (Sets.wordOf (rng 122 98) 3 : Nat)]] w fun e w' => e = .returned (.int .i64 0) ∧ Below w.heap.size w w' := by
  have h := count_any (rng 122 98) w
  rwa [show lst (rng 122 98) 256 = [] from by decide +kernel] at h
theorem compl_none (w : World) : Calls Tryd.prog 25 #[.agg #[.int .u64 0, .int .u64 0, .int .u64 0, .int .u64 0]] w fun e w' => e = .returned (.agg #[.int .u64 (Sets.wordOf (fun _ => true) 0 : Nat), .int .u64 (Sets.wordOf (fun _ => true) 1 : Nat), .int .u64 (Sets.wordOf (fun _ => true) 2 : Nat), .int .u64 (Sets.wordOf (fun _ => true) 3 : Nat)]) ∧ Below w.heap.size w w' := by
  have h := complement_any (fun _ => false) w
  rw [empty, empty, empty, empty] at h
  exact h
theorem count_all (w : World) : Calls Tryd.prog 17 #[.agg #[.int .u64 (Sets.wordOf (fun _ => true) 0 : Nat), .int .u64 (Sets.wordOf (fun _ => true) 1 : Nat), .int .u64 (Sets.wordOf (fun _ => true) 2 : Nat), .int .u64 (Sets.wordOf (fun _ => true) 3 : Nat)]] w fun e w' => e = .returned (.int .i64 256) ∧ Below w.heap.size w w' := by
  have h := count_any (fun _ => true) w
  rwa [show (lst (fun _ => true) 256).length = 256 from by decide +kernel] at h

set_option maxHeartbeats 1000000 in
theorem awake_any (w : World) (hT : TzHeld w) : Calls Tryd.prog 8 #[] w fun e w' => e = .returned (.bool true) ∧ Below w.heap.size w w' := by
  go_enter Tryd.func8, Tryd.ntmps8
  go_wp2_with (go_at_call 9
               refine (of_cabc _).mono ?_
               rintro e w1 ⟨rfl, hb1⟩
               have hT1 := hT.below hb1)
  go_wp2_with (go_at_call 15
               refine (list_cabc _ hT1).mono ?_
               rintro e w2 ⟨rfl, hb2⟩
               have hb02 := hb1.trans (hb2.mono hb1.size)
               clear hb1 hb2 hT1)
  go_wp2_with (go_at_call 9
               refine (of_cabc _).mono ?_
               rintro e w3 ⟨rfl, hb3⟩
               have hb03 := hb02.trans (hb3.mono hb02.size)
               clear hb02 hb3)
  go_wp2_with (go_at_call 17
               refine (count_cabc _).mono ?_
               rintro e w4 ⟨rfl, hb4⟩
               have hb04 := hb03.trans (hb4.mono hb03.size)
               clear hb03 hb4)
  go_wp2_with (go_at_call 11
               refine (range_za _).mono ?_
               rintro e w5 ⟨rfl, hb5⟩
               have hb05 := hb04.trans (hb5.mono hb04.size)
               clear hb04 hb5)
  go_wp2_with (go_at_call 17
               refine (count_za _).mono ?_
               rintro e w6 ⟨rfl, hb6⟩
               have hb06 := hb05.trans (hb6.mono hb05.size)
               clear hb05 hb6)
  go_wp2_with (go_at_call 25
               refine (compl_none _).mono ?_
               rintro e w7 ⟨rfl, hb7⟩
               have hb07 := hb06.trans (hb7.mono hb06.size)
               clear hb06 hb7)
  go_wp2_with (go_at_call 17
               refine (count_all _).mono ?_
               rintro e w8 ⟨rfl, hb8⟩
               have hb08 := hb07.trans (hb8.mono hb07.size)
               clear hb07 hb8)
  go_ret
  exact ⟨rfl, hb08⟩
end Go.Proofs.YtncdcdgmmbcbfaaDoor.CharAwake
