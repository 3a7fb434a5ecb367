/- The reference's Union, Intersect, Minus and Complement return the union, the intersection, the difference and the complement of sets. No condition. -/
import Derived.Test.YtncdcdgmmbcbfaaDoorCharComb
namespace Go.Proofs.YtncdcdgmmbcbfaaDoor.CharRefOps
open Go Go.RowKit CharHas CharWith CharOf CharRefOf CharRange CharOps CharComb

set_option maxHeartbeats 1000000 in
theorem refUnion_any (p q : Nat → Bool) (w : World) :
    Calls Tryd.prog 21 #[.agg #[.int .u64 (Sets.wordOf p 0 : Nat), .int .u64 (Sets.wordOf p 1 : Nat), .int .u64 (Sets.wordOf p 2 : Nat), .int .u64 (Sets.wordOf p 3 : Nat)], .agg #[.int .u64 (Sets.wordOf q 0 : Nat), .int .u64 (Sets.wordOf q 1 : Nat), .int .u64 (Sets.wordOf q 2 : Nat), .int .u64 (Sets.wordOf q 3 : Nat)]] w fun e w' => e = .returned (.agg #[.int .u64 (Sets.wordOf (fun c => p c || q c) 0 : Nat), .int .u64 (Sets.wordOf (fun c => p c || q c) 1 : Nat), .int .u64 (Sets.wordOf (fun c => p c || q c) 2 : Nat), .int .u64 (Sets.wordOf (fun c => p c || q c) 3 : Nat)]) ∧ Below w.heap.size w w' := by
  have hv := Var.fresh2 w p q
  have hb0 := (((Below.refl w.heap.size w).alloc (Nat.le_refl _) (.cells #[.int .u64 (Sets.wordOf p 0 : Nat), .int .u64 (Sets.wordOf p 1 : Nat), .int .u64 (Sets.wordOf p 2 : Nat), .int .u64 (Sets.wordOf p 3 : Nat)] 26)).alloc (by simp) (.cells #[.int .u64 (Sets.wordOf q 0 : Nat), .int .u64 (Sets.wordOf q 1 : Nat), .int .u64 (Sets.wordOf q 2 : Nat), .int .u64 (Sets.wordOf q 3 : Nat)] 26)).alloc (by simp <;> omega) (.cells #[.int .u64 0, .int .u64 0, .int .u64 0, .int .u64 0] 26)
  have HV := Lib.hid hv
  have HB := Lib.hid hb0
  clear hv hb0
  go_enter Tryd.func21, Tryd.ntmps21
  go_wp2_with (go_at_call 30
               refine (comb1 p q _).mono ?_
               rintro e w1 ⟨rfl, hb1⟩
               have hv1 := HV.out.below hb1 HV.out.lt
               obtain ⟨d0, d1, d2, d3, f0, f1, f2, f3⟩ := hv1.facts
               have hl1 := hv1.lt
               have hs := Lib.hid (HB.out.trans (hb1.mono HB.out.size))
               have H1 := Lib.hid hv1
               clear hv1)
  refine bodyPost_ret (v := .agg #[.int .u64 (Sets.wordOf (fun c => p c || q c) 0 : Nat), .int .u64 (Sets.wordOf (fun c => p c || q c) 1 : Nat), .int .u64 (Sets.wordOf (fun c => p c || q c) 2 : Nat), .int .u64 (Sets.wordOf (fun c => p c || q c) 3 : Nat)]) ?_ rfl ⟨rfl, ?_⟩
  · clear hb1 hs H1
    simp [results, Tryd.results21, go_sem, d0, d1, d2, d3]
  exact (((hs.out.setCell (p := ⟨_, 0, none⟩) (by simp <;> omega) _).setCell (p := ⟨_, 1, none⟩) (by simp <;> omega) _).setCell (p := ⟨_, 2, none⟩) (by simp <;> omega) _).setCell (p := ⟨_, 3, none⟩) (by simp <;> omega) _
set_option maxHeartbeats 1000000 in
theorem refIntersect_any (p q : Nat → Bool) (w : World) :
    Calls Tryd.prog 22 #[.agg #[.int .u64 (Sets.wordOf p 0 : Nat), .int .u64 (Sets.wordOf p 1 : Nat), .int .u64 (Sets.wordOf p 2 : Nat), .int .u64 (Sets.wordOf p 3 : Nat)], .agg #[.int .u64 (Sets.wordOf q 0 : Nat), .int .u64 (Sets.wordOf q 1 : Nat), .int .u64 (Sets.wordOf q 2 : Nat), .int .u64 (Sets.wordOf q 3 : Nat)]] w fun e w' => e = .returned (.agg #[.int .u64 (Sets.wordOf (fun c => p c && q c) 0 : Nat), .int .u64 (Sets.wordOf (fun c => p c && q c) 1 : Nat), .int .u64 (Sets.wordOf (fun c => p c && q c) 2 : Nat), .int .u64 (Sets.wordOf (fun c => p c && q c) 3 : Nat)]) ∧ Below w.heap.size w w' := by
  have hv := Var.fresh2 w p q
  have hb0 := (((Below.refl w.heap.size w).alloc (Nat.le_refl _) (.cells #[.int .u64 (Sets.wordOf p 0 : Nat), .int .u64 (Sets.wordOf p 1 : Nat), .int .u64 (Sets.wordOf p 2 : Nat), .int .u64 (Sets.wordOf p 3 : Nat)] 26)).alloc (by simp) (.cells #[.int .u64 (Sets.wordOf q 0 : Nat), .int .u64 (Sets.wordOf q 1 : Nat), .int .u64 (Sets.wordOf q 2 : Nat), .int .u64 (Sets.wordOf q 3 : Nat)] 26)).alloc (by simp <;> omega) (.cells #[.int .u64 0, .int .u64 0, .int .u64 0, .int .u64 0] 26)
  have HV := Lib.hid hv
  have HB := Lib.hid hb0
  clear hv hb0
  go_enter Tryd.func22, Tryd.ntmps22
  go_wp2_with (go_at_call 30
               refine (comb0 p q _).mono ?_
               rintro e w1 ⟨rfl, hb1⟩
               have hv1 := HV.out.below hb1 HV.out.lt
               obtain ⟨d0, d1, d2, d3, f0, f1, f2, f3⟩ := hv1.facts
               have hl1 := hv1.lt
               have hs := Lib.hid (HB.out.trans (hb1.mono HB.out.size))
               have H1 := Lib.hid hv1
               clear hv1)
  refine bodyPost_ret (v := .agg #[.int .u64 (Sets.wordOf (fun c => p c && q c) 0 : Nat), .int .u64 (Sets.wordOf (fun c => p c && q c) 1 : Nat), .int .u64 (Sets.wordOf (fun c => p c && q c) 2 : Nat), .int .u64 (Sets.wordOf (fun c => p c && q c) 3 : Nat)]) ?_ rfl ⟨rfl, ?_⟩
  · clear hb1 hs H1
    simp [results, Tryd.results22, go_sem, d0, d1, d2, d3]
  exact (((hs.out.setCell (p := ⟨_, 0, none⟩) (by simp <;> omega) _).setCell (p := ⟨_, 1, none⟩) (by simp <;> omega) _).setCell (p := ⟨_, 2, none⟩) (by simp <;> omega) _).setCell (p := ⟨_, 3, none⟩) (by simp <;> omega) _
set_option maxHeartbeats 1000000 in
theorem refMinus_any (p q : Nat → Bool) (w : World) :
    Calls Tryd.prog 24 #[.agg #[.int .u64 (Sets.wordOf p 0 : Nat), .int .u64 (Sets.wordOf p 1 : Nat), .int .u64 (Sets.wordOf p 2 : Nat), .int .u64 (Sets.wordOf p 3 : Nat)], .agg #[.int .u64 (Sets.wordOf q 0 : Nat), .int .u64 (Sets.wordOf q 1 : Nat), .int .u64 (Sets.wordOf q 2 : Nat), .int .u64 (Sets.wordOf q 3 : Nat)]] w fun e w' => e = .returned (.agg #[.int .u64 (Sets.wordOf (fun c => p c && !q c) 0 : Nat), .int .u64 (Sets.wordOf (fun c => p c && !q c) 1 : Nat), .int .u64 (Sets.wordOf (fun c => p c && !q c) 2 : Nat), .int .u64 (Sets.wordOf (fun c => p c && !q c) 3 : Nat)]) ∧ Below w.heap.size w w' := by
  have hv := Var.fresh2 w p q
  have hb0 := (((Below.refl w.heap.size w).alloc (Nat.le_refl _) (.cells #[.int .u64 (Sets.wordOf p 0 : Nat), .int .u64 (Sets.wordOf p 1 : Nat), .int .u64 (Sets.wordOf p 2 : Nat), .int .u64 (Sets.wordOf p 3 : Nat)] 26)).alloc (by simp) (.cells #[.int .u64 (Sets.wordOf q 0 : Nat), .int .u64 (Sets.wordOf q 1 : Nat), .int .u64 (Sets.wordOf q 2 : Nat), .int .u64 (Sets.wordOf q 3 : Nat)] 26)).alloc (by simp <;> omega) (.cells #[.int .u64 0, .int .u64 0, .int .u64 0, .int .u64 0] 26)
  have HV := Lib.hid hv
  have HB := Lib.hid hb0
  clear hv hb0
  go_enter Tryd.func24, Tryd.ntmps24
  go_wp2_with (go_at_call 30
               refine (comb2 p q _).mono ?_
               rintro e w1 ⟨rfl, hb1⟩
               have hv1 := HV.out.below hb1 HV.out.lt
               obtain ⟨d0, d1, d2, d3, f0, f1, f2, f3⟩ := hv1.facts
               have hl1 := hv1.lt
               have hs := Lib.hid (HB.out.trans (hb1.mono HB.out.size))
               have H1 := Lib.hid hv1
               clear hv1)
  refine bodyPost_ret (v := .agg #[.int .u64 (Sets.wordOf (fun c => p c && !q c) 0 : Nat), .int .u64 (Sets.wordOf (fun c => p c && !q c) 1 : Nat), .int .u64 (Sets.wordOf (fun c => p c && !q c) 2 : Nat), .int .u64 (Sets.wordOf (fun c => p c && !q c) 3 : Nat)]) ?_ rfl ⟨rfl, ?_⟩
  · clear hb1 hs H1
    simp [results, Tryd.results24, go_sem, d0, d1, d2, d3]
  exact (((hs.out.setCell (p := ⟨_, 0, none⟩) (by simp <;> omega) _).setCell (p := ⟨_, 1, none⟩) (by simp <;> omega) _).setCell (p := ⟨_, 2, none⟩) (by simp <;> omega) _).setCell (p := ⟨_, 3, none⟩) (by simp <;> omega) _
theorem rest_word (p : Nat → Bool) (j : Nat) (hj : j < 4) : Sets.wordOf (fun c => rng 0 256 c && !p c) j = Sets.wordOf (fun c => !p c) j :=
  Sets.wordOf_congr _ _ j fun i hi => by
    have : decide (64 * j + i < 256) = true := by simp; omega
    simp [rng, this]
theorem compl_comb (p : Nat → Bool) (w : World) :
    Calls Tryd.prog 30 #[.int .i64 2, .agg #[.int .u64 (Sets.wordOf (rng 0 256) 0 : Nat), .int .u64 (Sets.wordOf (rng 0 256) 1 : Nat), .int .u64 (Sets.wordOf (rng 0 256) 2 : Nat), .int .u64 (Sets.wordOf (rng 0 256) 3 : Nat)], .agg #[.int .u64 (Sets.wordOf p 0 : Nat), .int .u64 (Sets.wordOf p 1 : Nat), .int .u64 (Sets.wordOf p 2 : Nat), .int .u64 (Sets.wordOf p 3 : Nat)]] w fun e w' => e = .returned (.agg #[.int .u64 (Sets.wordOf (fun c => !p c) 0 : Nat), .int .u64 (Sets.wordOf (fun c => !p c) 1 : Nat), .int .u64 (Sets.wordOf (fun c => !p c) 2 : Nat), .int .u64 (Sets.wordOf (fun c => !p c) 3 : Nat)]) ∧ Below w.heap.size w w' := by
  have h := comb2 (rng 0 256) p w
  rw [rest_word p 0 (by decide), rest_word p 1 (by decide), rest_word p 2 (by decide), rest_word p 3 (by decide)] at h
  exact h
set_option maxHeartbeats 1000000 in
theorem refComplement_any (p : Nat → Bool) (w : World) :
    Calls Tryd.prog 26 #[.agg #[.int .u64 (Sets.wordOf p 0 : Nat), .int .u64 (Sets.wordOf p 1 : Nat), .int .u64 (Sets.wordOf p 2 : Nat), .int .u64 (Sets.wordOf p 3 : Nat)]] w fun e w' => e = .returned (.agg #[.int .u64 (Sets.wordOf (fun c => !p c) 0 : Nat), .int .u64 (Sets.wordOf (fun c => !p c) 1 : Nat), .int .u64 (Sets.wordOf (fun c => !p c) 2 : Nat), .int .u64 (Sets.wordOf (fun c => !p c) 3 : Nat)]) ∧ Below w.heap.size w w' := by
  have hp : Var ((w.alloc (.cells #[.int .u64 (Sets.wordOf p 0 : Nat), .int .u64 (Sets.wordOf p 1 : Nat), .int .u64 (Sets.wordOf p 2 : Nat), .int .u64 (Sets.wordOf p 3 : Nat)] 26)).alloc (.cells #[.int .u64 0, .int .u64 0, .int .u64 0, .int .u64 0] 26)) w.heap.size p := (Var.boxed w p).keep (Below.heap_alloc _ _ _ (by simp))
  have hv := Var.fresh1 w p
  have hb0 := ((Below.refl w.heap.size w).alloc (Nat.le_refl _) (.cells #[.int .u64 (Sets.wordOf p 0 : Nat), .int .u64 (Sets.wordOf p 1 : Nat), .int .u64 (Sets.wordOf p 2 : Nat), .int .u64 (Sets.wordOf p 3 : Nat)] 26)).alloc (by simp) (.cells #[.int .u64 0, .int .u64 0, .int .u64 0, .int .u64 0] 26)
  have hr : ∀ w, Calls Tryd.prog 12 #[.int .u8 0, .int .u8 255] w fun e w' => e = .returned (.agg #[.int .u64 (Sets.wordOf (rng 0 256) 0 : Nat), .int .u64 (Sets.wordOf (rng 0 256) 1 : Nat), .int .u64 (Sets.wordOf (rng 0 256) 2 : Nat), .int .u64 (Sets.wordOf (rng 0 256) 3 : Nat)]) ∧ Below w.heap.size w w' := fun w => refRange_any 0 255 w (by decide) (by decide)
  have HR := Lib.hid hr
  have HP := Lib.hid hp
  have HV := Lib.hid hv
  have HB := Lib.hid hb0
  clear hp hv hb0 hr
  go_enter Tryd.func26, Tryd.ntmps26
  go_wp2_with fail
  obtain ⟨c0, c1, c2, c3, -⟩ := HP.out.facts
  have hpl := HP.out.lt
  go_region_with (first
    | (go_at_call 12
       refine (HR.out _).mono ?_
       rintro e w1 ⟨rfl, hb1⟩
       have hp1 : Var w1 w.heap.size p := by first | exact HP.out.below hb1 HP.out.lt | exact HP.out.drew.below hb1 HP.out.lt
       have hv1 : Var w1 (w.heap.size + 1) (fun _ => false) := by first | exact HV.out.below hb1 HV.out.lt | exact HV.out.drew.below hb1 HV.out.lt
       have hs : Below w.heap.size w w1 := by first | exact HB.out.trans (hb1.mono HB.out.size) | exact HB.out.drew.trans (hb1.mono HB.out.size)
       obtain ⟨c0, c1, c2, c3, -⟩ := hp1.facts
       have hpl := hp1.lt
       have HV1 := Lib.hid hv1
       have HS := Lib.hid hs
       clear hp1 hv1 hs)
    | (go_at_call 30
       refine (compl_comb p _).mono ?_
       rintro e w2 ⟨rfl, hb2⟩
       have hv2 : Var w2 (w.heap.size + 1) (fun _ => false) := HV1.out.below hb2 HV1.out.lt
       have hs2 : Below w.heap.size w w2 := HS.out.trans (hb2.mono HS.out.size)
       obtain ⟨d0, d1, d2, d3, f0, f1, f2, f3⟩ := hv2.facts
       have hl1 := hv2.lt
       have HS2 := Lib.hid hs2
       have H2 := Lib.hid hv2
       clear hv2 hs2))
  all_goals go_wp2
  all_goals
    refine bodyPost_ret (v := .agg #[.int .u64 (Sets.wordOf (fun c => !p c) 0 : Nat), .int .u64 (Sets.wordOf (fun c => !p c) 1 : Nat), .int .u64 (Sets.wordOf (fun c => !p c) 2 : Nat), .int .u64 (Sets.wordOf (fun c => !p c) 3 : Nat)]) ?_ rfl ⟨rfl, ?_⟩
    · clear hb2 HS2 H2
      simp [results, Tryd.results26, go_sem, d0, d1, d2, d3]
    exact (((HS2.out.setCell (p := ⟨_, 0, none⟩) (by simp <;> omega) _).setCell (p := ⟨_, 1, none⟩) (by simp <;> omega) _).setCell (p := ⟨_, 2, none⟩) (by simp <;> omega) _).setCell (p := ⟨_, 3, none⟩) (by simp <;> omega) _
end Go.Proofs.YtncdcdgmmbcbfaaDoor.CharRefOps
