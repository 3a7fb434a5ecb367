/- The reference's Union, Intersect, Minus and Complement return the union, the intersection, the difference and the complement of sets. No condition. -/
import Derived.Test.YtncdcdgmmbcbfaaDoorCharOps
namespace Go.Proofs.YtncdcdgmmbcbfaaDoor.CharComb
open Go Go.RowKit CharHas CharWith CharOf CharRefOf CharRange CharOps

/-- the bytes below n of a set -/
def sel (g : Nat → Bool) (n : Nat) : Nat → Bool := fun d => g d && decide (d < n)
theorem sel_yes (g : Nat → Bool) (c : Nat) (h : g c = true) : Sets.ins (sel g c) c = sel g (c + 1) := by
  funext d
  simp only [Sets.ins, sel]
  by_cases hd : d = c
  · subst hd; simp [h]
  · have h1 : (d == c) = false := by simp [hd]
    have h2 : decide (d < c) = decide (d < c + 1) := by
      rw [Bool.eq_iff_iff]; simp; omega
    rw [h1, h2]; simp
theorem sel_no (g : Nat → Bool) (c : Nat) (h : g c = false) : sel g c = sel g (c + 1) := by
  funext d
  simp only [sel]
  by_cases hd : d = c
  · subst hd; simp [h]
  · have h2 : decide (d < c) = decide (d < c + 1) := by
      rw [Bool.eq_iff_iff]; simp; omega
    rw [h2]
theorem sel_start (g : Nat → Bool) : (fun _ => false) = sel g 0 := by
  funext d; simp [sel]
theorem sel_end (g : Nat → Bool) (j : Nat) (hj : j < 4) : Sets.wordOf (sel g 256) j = Sets.wordOf g j :=
  Sets.wordOf_congr _ _ j fun i hi => by
    have : decide (64 * j + i < 256) = true := by simp; omega
    simp only [sel, this, Bool.and_true]
theorem start4 (w : World) (p q : Nat → Bool) (W' : World)
    (e : W' = (((w.alloc (.cells #[.int .u64 (Sets.wordOf p 0 : Nat), .int .u64 (Sets.wordOf p 1 : Nat), .int .u64 (Sets.wordOf p 2 : Nat), .int .u64 (Sets.wordOf p 3 : Nat)] 26)).alloc (.cells #[.int .u64 (Sets.wordOf q 0 : Nat), .int .u64 (Sets.wordOf q 1 : Nat), .int .u64 (Sets.wordOf q 2 : Nat), .int .u64 (Sets.wordOf q 3 : Nat)] 26)).alloc (.cells #[.int .u64 0, .int .u64 0, .int .u64 0, .int .u64 0] 26)).alloc (.cells #[.int .u64 0, .int .u64 0, .int .u64 0, .int .u64 0] 26)) :
    Var W' w.heap.size p ∧ Var W' (w.heap.size + 1) q ∧ Var W' (w.heap.size + 2) (fun _ => false) ∧ Var W' (w.heap.size + 3) (fun _ => false) ∧ Below w.heap.size w W' := by
  subst e
  refine ⟨(Var.boxed w p).keep ?_, (Var.boxed1 w p q).keep ?_, (Var.fresh2 w p q).keep ?_, ?_, ?_⟩
  · rw [Below.heap_alloc _ _ _ (by simp <;> omega), Below.heap_alloc _ _ _ (by simp <;> omega), Below.heap_alloc _ _ _ (by simp)]
  · rw [Below.heap_alloc _ _ _ (by simp <;> omega), Below.heap_alloc _ _ _ (by simp)]
  · rw [Below.heap_alloc _ _ _ (by simp)]
  · have := Var.fresh (((w.alloc (.cells #[.int .u64 (Sets.wordOf p 0 : Nat), .int .u64 (Sets.wordOf p 1 : Nat), .int .u64 (Sets.wordOf p 2 : Nat), .int .u64 (Sets.wordOf p 3 : Nat)] 26)).alloc (.cells #[.int .u64 (Sets.wordOf q 0 : Nat), .int .u64 (Sets.wordOf q 1 : Nat), .int .u64 (Sets.wordOf q 2 : Nat), .int .u64 (Sets.wordOf q 3 : Nat)] 26)).alloc (.cells #[.int .u64 0, .int .u64 0, .int .u64 0, .int .u64 0] 26))
    simpa using this
  · exact ((((Below.refl _ _).alloc (Nat.le_refl _) _).alloc (by simp) _).alloc (by simp <;> omega) _).alloc (by simp <;> omega) _

-- THEOREMS
set_option maxRecDepth 100000 in
set_option maxHeartbeats 4000000 in
theorem comb0 (p q : Nat → Bool) (w : World) :
    Calls Tryd.prog 30 #[.int .i64 0, .agg #[.int .u64 (Sets.wordOf p 0 : Nat), .int .u64 (Sets.wordOf p 1 : Nat), .int .u64 (Sets.wordOf p 2 : Nat), .int .u64 (Sets.wordOf p 3 : Nat)], .agg #[.int .u64 (Sets.wordOf q 0 : Nat), .int .u64 (Sets.wordOf q 1 : Nat), .int .u64 (Sets.wordOf q 2 : Nat), .int .u64 (Sets.wordOf q 3 : Nat)]] w
      fun e w' => e = .returned (.agg #[.int .u64 (Sets.wordOf (fun c => p c && q c) 0 : Nat), .int .u64 (Sets.wordOf (fun c => p c && q c) 1 : Nat), .int .u64 (Sets.wordOf (fun c => p c && q c) 2 : Nat), .int .u64 (Sets.wordOf (fun c => p c && q c) 3 : Nat)]) ∧ Below w.heap.size w w' := by
  go_enter Tryd.func30, Tryd.ntmps30
  go_wp2
  go_loopw [8] (fun i wr => ∃ c : Nat, c ≤ 256 ∧ i = .int .i64 c ∧ Var wr w.heap.size p ∧ Var wr (w.heap.size + 1) q ∧ Var wr (w.heap.size + 2) (fun _ => false) ∧ Var wr (w.heap.size + 3) (sel (fun c => p c && q c) c) ∧ Below w.heap.size w wr) (fun i _ => 256 - (intOf i).toNat)
  case atStart =>
    obtain ⟨h0, h1, h2, h3, h4⟩ := start4 w p q _ rfl
    exact ⟨0, by omega, rfl, h0, h1, h2, by rw [← sel_start]; exact h3, h4⟩
  case round =>
    obtain ⟨c, hc, rfl, ha, hq, hr, ho, hb⟩ := hrel
    by_cases hlt : c < 256
    · obtain ⟨a0, a1, a2, a3, -⟩ := ha.facts
      obtain ⟨q0, q1, q2, q3, -⟩ := hq.facts
      have hla := ha.lt
      have hlq := hq.lt
      have hlo := ho.lt
      have hlr := hr.lt
      have cm : IntKind.u8.wrap (c : Int) = (c : Int) := by rw [IntKind.wrap_u8]; omega
      have HA := Lib.hid ha
      have HQ := Lib.hid hq
      have HR := Lib.hid hr
      have HO := Lib.hid ho
      clear ha hq hr ho
      have hbx : Below wr.heap.size wr wr := Below.refl _ _
      go_wp2_with fail
      go_region_with (first
        | (go_at_call 14
           ((with_reducible refine (refHas_any p c _ hlt).mono ?_); rintro e w1 ⟨rfl, hb1⟩)
           have hby : Below wr.heap.size wr w1 := by first | exact hbx.trans (hb1.mono hbx.size) | exact hbx.drew.trans (hb1.mono hbx.size) | exact hbx.drew.drew.trans (hb1.mono hbx.size)
           clear hbx hb1
           have hbx := hby
           clear hby
           obtain ⟨a0, a1, a2, a3, -⟩ := (HA.out.below hbx HA.out.lt).facts
           obtain ⟨q0, q1, q2, q3, -⟩ := (HQ.out.below hbx HQ.out.lt).facts)
        | (go_at_call 14
           ((with_reducible refine (refHas_any q c _ hlt).mono ?_); rintro e w1 ⟨rfl, hb1⟩)
           have hby : Below wr.heap.size wr w1 := by first | exact hbx.trans (hb1.mono hbx.size) | exact hbx.drew.trans (hb1.mono hbx.size) | exact hbx.drew.drew.trans (hb1.mono hbx.size)
           clear hbx hb1
           have hbx := hby
           clear hby
           obtain ⟨a0, a1, a2, a3, -⟩ := (HA.out.below hbx HA.out.lt).facts
           obtain ⟨q0, q1, q2, q3, -⟩ := (HQ.out.below hbx HQ.out.lt).facts))
      all_goals
        obtain ⟨o0, o1, o2, o3, -⟩ := (HO.out.below hbx HO.out.lt).facts
        have hlo1 := (HO.out.below hbx HO.out.lt).lt
        by_cases hyes : (fun c => p c && q c) c = true
        · have hst := Lib.hid (sel_yes (fun c => p c && q c) c hyes)
          have hW := Lib.hid fun w => with_any (sel (fun c => p c && q c) c) c w hlt
          generalize sel (fun c => p c && q c) c = s at *
          cases hpc : p c <;> cases hqc : q c
          all_goals first
            | (exfalso
               simp only [hpc, hqc] at hyes
               done)
            | (exfalso
               revert hyes
               simp only [hpc, hqc]
               decide)
            | skip
          all_goals
            go_wp2_with
              (go_at_call 27
               refine (hW.out _).mono ?_
               rintro e w2 ⟨rfl, hb2⟩
               have hby : Below wr.heap.size wr w2 := by first | exact hbx.trans (hb2.mono hbx.size) | exact hbx.drew.trans (hb2.mono hbx.size) | exact hbx.drew.drew.trans (hb2.mono hbx.size)
               obtain ⟨z0, z1, z2, z3, y0, y1, y2, y3⟩ := (HO.out.below hby HO.out.lt).facts
               have hlo2 := (HO.out.below hby HO.out.lt).lt)
          all_goals go_roundw
          all_goals first
            | (refine ⟨c + 1, by omega, by go_num, (((((HA.out.below hby HA.out.lt).far (by simp <;> omega) _).far (by simp <;> omega) _).far (by simp <;> omega) _).far (by simp <;> omega) _), (((((HQ.out.below hby HQ.out.lt).far (by simp <;> omega) _).far (by simp <;> omega) _).far (by simp <;> omega) _).far (by simp <;> omega) _), (((((HR.out.below hby HR.out.lt).far (by simp <;> omega) _).far (by simp <;> omega) _).far (by simp <;> omega) _).far (by simp <;> omega) _), by rw [← hst.out]; exact (HO.out.below hby HO.out.lt).store (Sets.ins s c), ?_⟩
               exact (((((hb.trans (hby.mono hb.size)).setCell (p := ⟨_, 0, none⟩) (by simp <;> omega) _).setCell (p := ⟨_, 1, none⟩) (by simp <;> omega) _).setCell (p := ⟨_, 2, none⟩) (by simp <;> omega) _).setCell (p := ⟨_, 3, none⟩) (by simp <;> omega) _))
            | (simp [intOf]
               omega)
        · have hst := Lib.hid (sel_no (fun c => p c && q c) c (by simpa using hyes))
          generalize sel (fun c => p c && q c) c = s at *
          cases hpc : p c <;> cases hqc : q c
          all_goals first
            | (exfalso
               apply hyes
               simp only [hpc, hqc]
               done)
            | (exfalso
               apply hyes
               simp only [hpc, hqc]
               decide)
            | skip
          all_goals go_wp2
          all_goals go_roundw
          all_goals first
            | exact ⟨c + 1, by omega, by go_num, HA.out.below hbx HA.out.lt, HQ.out.below hbx HQ.out.lt, HR.out.below hbx HR.out.lt, by rw [← hst.out]; exact HO.out.below hbx HO.out.lt, hb.trans (hbx.mono hb.size)⟩
            | exact ⟨c + 1, by omega, by go_num, HA.out.below hbx.drew HA.out.lt, HQ.out.below hbx.drew HQ.out.lt, HR.out.below hbx.drew HR.out.lt, by rw [← hst.out]; exact HO.out.below hbx.drew HO.out.lt, hb.trans (hbx.drew.mono hb.size)⟩
            | (simp [intOf]
               omega)
    · obtain rfl : c = 256 := by omega
      have hu4 : Var wr (w.heap.size + 3) (fun c => p c && q c) := Var.congr ho fun j hj => sel_end _ _ hj
      obtain ⟨c0, c1, c2, c3, -⟩ := hu4.facts
      obtain ⟨d0, d1, d2, d3, f0, f1, f2, f3⟩ := hr.facts
      have hl1 := hu4.lt
      have hl0 := hr.lt
      clear ha hq ho hr hu4
      go_wp2
      refine bodyPost_ret (v := .agg #[.int .u64 (Sets.wordOf (fun c => p c && q c) 0 : Nat), .int .u64 (Sets.wordOf (fun c => p c && q c) 1 : Nat), .int .u64 (Sets.wordOf (fun c => p c && q c) 2 : Nat), .int .u64 (Sets.wordOf (fun c => p c && q c) 3 : Nat)]) ?_ rfl ⟨rfl, ?_⟩
      · clear hb
        simp [results, Tryd.results30, go_sem, d0, d1, d2, d3]
      exact (((hb.setCell (p := ⟨_, 0, none⟩) (by simp <;> omega) _).setCell (p := ⟨_, 1, none⟩) (by simp <;> omega) _).setCell (p := ⟨_, 2, none⟩) (by simp <;> omega) _).setCell (p := ⟨_, 3, none⟩) (by simp <;> omega) _
set_option maxRecDepth 100000 in
set_option maxHeartbeats 4000000 in
theorem comb1 (p q : Nat → Bool) (w : World) :
    Calls Tryd.prog 30 #[.int .i64 1, .agg #[.int .u64 (Sets.wordOf p 0 : Nat), .int .u64 (Sets.wordOf p 1 : Nat), .int .u64 (Sets.wordOf p 2 : Nat), .int .u64 (Sets.wordOf p 3 : Nat)], .agg #[.int .u64 (Sets.wordOf q 0 : Nat), .int .u64 (Sets.wordOf q 1 : Nat), .int .u64 (Sets.wordOf q 2 : Nat), .int .u64 (Sets.wordOf q 3 : Nat)]] w
      fun e w' => e = .returned (.agg #[.int .u64 (Sets.wordOf (fun c => p c || q c) 0 : Nat), .int .u64 (Sets.wordOf (fun c => p c || q c) 1 : Nat), .int .u64 (Sets.wordOf (fun c => p c || q c) 2 : Nat), .int .u64 (Sets.wordOf (fun c => p c || q c) 3 : Nat)]) ∧ Below w.heap.size w w' := by
  go_enter Tryd.func30, Tryd.ntmps30
  go_wp2
  go_loopw [8] (fun i wr => ∃ c : Nat, c ≤ 256 ∧ i = .int .i64 c ∧ Var wr w.heap.size p ∧ Var wr (w.heap.size + 1) q ∧ Var wr (w.heap.size + 2) (fun _ => false) ∧ Var wr (w.heap.size + 3) (sel (fun c => p c || q c) c) ∧ Below w.heap.size w wr) (fun i _ => 256 - (intOf i).toNat)
  case atStart =>
    obtain ⟨h0, h1, h2, h3, h4⟩ := start4 w p q _ rfl
    exact ⟨0, by omega, rfl, h0, h1, h2, by rw [← sel_start]; exact h3, h4⟩
  case round =>
    obtain ⟨c, hc, rfl, ha, hq, hr, ho, hb⟩ := hrel
    by_cases hlt : c < 256
    · obtain ⟨a0, a1, a2, a3, -⟩ := ha.facts
      obtain ⟨q0, q1, q2, q3, -⟩ := hq.facts
      have hla := ha.lt
      have hlq := hq.lt
      have hlo := ho.lt
      have hlr := hr.lt
      have cm : IntKind.u8.wrap (c : Int) = (c : Int) := by rw [IntKind.wrap_u8]; omega
      have HA := Lib.hid ha
      have HQ := Lib.hid hq
      have HR := Lib.hid hr
      have HO := Lib.hid ho
      clear ha hq hr ho
      have hbx : Below wr.heap.size wr wr := Below.refl _ _
      go_wp2_with fail
      go_region_with (first
        | (go_at_call 14
           ((with_reducible refine (refHas_any p c _ hlt).mono ?_); rintro e w1 ⟨rfl, hb1⟩)
           have hby : Below wr.heap.size wr w1 := by first | exact hbx.trans (hb1.mono hbx.size) | exact hbx.drew.trans (hb1.mono hbx.size) | exact hbx.drew.drew.trans (hb1.mono hbx.size)
           clear hbx hb1
           have hbx := hby
           clear hby
           obtain ⟨a0, a1, a2, a3, -⟩ := (HA.out.below hbx HA.out.lt).facts
           obtain ⟨q0, q1, q2, q3, -⟩ := (HQ.out.below hbx HQ.out.lt).facts)
        | (go_at_call 14
           ((with_reducible refine (refHas_any q c _ hlt).mono ?_); rintro e w1 ⟨rfl, hb1⟩)
           have hby : Below wr.heap.size wr w1 := by first | exact hbx.trans (hb1.mono hbx.size) | exact hbx.drew.trans (hb1.mono hbx.size) | exact hbx.drew.drew.trans (hb1.mono hbx.size)
           clear hbx hb1
           have hbx := hby
           clear hby
           obtain ⟨a0, a1, a2, a3, -⟩ := (HA.out.below hbx HA.out.lt).facts
           obtain ⟨q0, q1, q2, q3, -⟩ := (HQ.out.below hbx HQ.out.lt).facts))
      all_goals
        obtain ⟨o0, o1, o2, o3, -⟩ := (HO.out.below hbx HO.out.lt).facts
        have hlo1 := (HO.out.below hbx HO.out.lt).lt
        by_cases hyes : (fun c => p c || q c) c = true
        · have hst := Lib.hid (sel_yes (fun c => p c || q c) c hyes)
          have hW := Lib.hid fun w => with_any (sel (fun c => p c || q c) c) c w hlt
          generalize sel (fun c => p c || q c) c = s at *
          cases hpc : p c <;> cases hqc : q c
          all_goals first
            | (exfalso
               simp only [hpc, hqc] at hyes
               done)
            | (exfalso
               revert hyes
               simp only [hpc, hqc]
               decide)
            | skip
          all_goals
            go_wp2_with
              (go_at_call 27
               refine (hW.out _).mono ?_
               rintro e w2 ⟨rfl, hb2⟩
               have hby : Below wr.heap.size wr w2 := by first | exact hbx.trans (hb2.mono hbx.size) | exact hbx.drew.trans (hb2.mono hbx.size) | exact hbx.drew.drew.trans (hb2.mono hbx.size)
               obtain ⟨z0, z1, z2, z3, y0, y1, y2, y3⟩ := (HO.out.below hby HO.out.lt).facts
               have hlo2 := (HO.out.below hby HO.out.lt).lt)
          all_goals go_roundw
          all_goals first
            | (refine ⟨c + 1, by omega, by go_num, (((((HA.out.below hby HA.out.lt).far (by simp <;> omega) _).far (by simp <;> omega) _).far (by simp <;> omega) _).far (by simp <;> omega) _), (((((HQ.out.below hby HQ.out.lt).far (by simp <;> omega) _).far (by simp <;> omega) _).far (by simp <;> omega) _).far (by simp <;> omega) _), (((((HR.out.below hby HR.out.lt).far (by simp <;> omega) _).far (by simp <;> omega) _).far (by simp <;> omega) _).far (by simp <;> omega) _), by rw [← hst.out]; exact (HO.out.below hby HO.out.lt).store (Sets.ins s c), ?_⟩
               exact (((((hb.trans (hby.mono hb.size)).setCell (p := ⟨_, 0, none⟩) (by simp <;> omega) _).setCell (p := ⟨_, 1, none⟩) (by simp <;> omega) _).setCell (p := ⟨_, 2, none⟩) (by simp <;> omega) _).setCell (p := ⟨_, 3, none⟩) (by simp <;> omega) _))
            | (simp [intOf]
               omega)
        · have hst := Lib.hid (sel_no (fun c => p c || q c) c (by simpa using hyes))
          generalize sel (fun c => p c || q c) c = s at *
          cases hpc : p c <;> cases hqc : q c
          all_goals first
            | (exfalso
               apply hyes
               simp only [hpc, hqc]
               done)
            | (exfalso
               apply hyes
               simp only [hpc, hqc]
               decide)
            | skip
          all_goals go_wp2
          all_goals go_roundw
          all_goals first
            | exact ⟨c + 1, by omega, by go_num, HA.out.below hbx HA.out.lt, HQ.out.below hbx HQ.out.lt, HR.out.below hbx HR.out.lt, by rw [← hst.out]; exact HO.out.below hbx HO.out.lt, hb.trans (hbx.mono hb.size)⟩
            | exact ⟨c + 1, by omega, by go_num, HA.out.below hbx.drew HA.out.lt, HQ.out.below hbx.drew HQ.out.lt, HR.out.below hbx.drew HR.out.lt, by rw [← hst.out]; exact HO.out.below hbx.drew HO.out.lt, hb.trans (hbx.drew.mono hb.size)⟩
            | (simp [intOf]
               omega)
    · obtain rfl : c = 256 := by omega
      have hu4 : Var wr (w.heap.size + 3) (fun c => p c || q c) := Var.congr ho fun j hj => sel_end _ _ hj
      obtain ⟨c0, c1, c2, c3, -⟩ := hu4.facts
      obtain ⟨d0, d1, d2, d3, f0, f1, f2, f3⟩ := hr.facts
      have hl1 := hu4.lt
      have hl0 := hr.lt
      clear ha hq ho hr hu4
      go_wp2
      refine bodyPost_ret (v := .agg #[.int .u64 (Sets.wordOf (fun c => p c || q c) 0 : Nat), .int .u64 (Sets.wordOf (fun c => p c || q c) 1 : Nat), .int .u64 (Sets.wordOf (fun c => p c || q c) 2 : Nat), .int .u64 (Sets.wordOf (fun c => p c || q c) 3 : Nat)]) ?_ rfl ⟨rfl, ?_⟩
      · clear hb
        simp [results, Tryd.results30, go_sem, d0, d1, d2, d3]
      exact (((hb.setCell (p := ⟨_, 0, none⟩) (by simp <;> omega) _).setCell (p := ⟨_, 1, none⟩) (by simp <;> omega) _).setCell (p := ⟨_, 2, none⟩) (by simp <;> omega) _).setCell (p := ⟨_, 3, none⟩) (by simp <;> omega) _
set_option maxRecDepth 100000 in
set_option maxHeartbeats 4000000 in
theorem comb2 (p q : Nat → Bool) (w : World) :
    Calls Tryd.prog 30 #[.int .i64 2, .agg #[.int .u64 (Sets.wordOf p 0 : Nat), .int .u64 (Sets.wordOf p 1 : Nat), .int .u64 (Sets.wordOf p 2 : Nat), .int .u64 (Sets.wordOf p 3 : Nat)], .agg #[.int .u64 (Sets.wordOf q 0 : Nat), .int .u64 (Sets.wordOf q 1 : Nat), .int .u64 (Sets.wordOf q 2 : Nat), .int .u64 (Sets.wordOf q 3 : Nat)]] w
      fun e w' => e = .returned (.agg #[.int .u64 (Sets.wordOf (fun c => p c && !q c) 0 : Nat), .int .u64 (Sets.wordOf (fun c => p c && !q c) 1 : Nat), .int .u64 (Sets.wordOf (fun c => p c && !q c) 2 : Nat), .int .u64 (Sets.wordOf (fun c => p c && !q c) 3 : Nat)]) ∧ Below w.heap.size w w' := by
  go_enter Tryd.func30, Tryd.ntmps30
  go_wp2
  go_loopw [8] (fun i wr => ∃ c : Nat, c ≤ 256 ∧ i = .int .i64 c ∧ Var wr w.heap.size p ∧ Var wr (w.heap.size + 1) q ∧ Var wr (w.heap.size + 2) (fun _ => false) ∧ Var wr (w.heap.size + 3) (sel (fun c => p c && !q c) c) ∧ Below w.heap.size w wr) (fun i _ => 256 - (intOf i).toNat)
  case atStart =>
    obtain ⟨h0, h1, h2, h3, h4⟩ := start4 w p q _ rfl
    exact ⟨0, by omega, rfl, h0, h1, h2, by rw [← sel_start]; exact h3, h4⟩
  case round =>
    obtain ⟨c, hc, rfl, ha, hq, hr, ho, hb⟩ := hrel
    by_cases hlt : c < 256
    · obtain ⟨a0, a1, a2, a3, -⟩ := ha.facts
      obtain ⟨q0, q1, q2, q3, -⟩ := hq.facts
      have hla := ha.lt
      have hlq := hq.lt
      have hlo := ho.lt
      have hlr := hr.lt
      have cm : IntKind.u8.wrap (c : Int) = (c : Int) := by rw [IntKind.wrap_u8]; omega
      have HA := Lib.hid ha
      have HQ := Lib.hid hq
      have HR := Lib.hid hr
      have HO := Lib.hid ho
      clear ha hq hr ho
      have hbx : Below wr.heap.size wr wr := Below.refl _ _
      go_wp2_with fail
      go_region_with (first
        | (go_at_call 14
           ((with_reducible refine (refHas_any p c _ hlt).mono ?_); rintro e w1 ⟨rfl, hb1⟩)
           have hby : Below wr.heap.size wr w1 := by first | exact hbx.trans (hb1.mono hbx.size) | exact hbx.drew.trans (hb1.mono hbx.size) | exact hbx.drew.drew.trans (hb1.mono hbx.size)
           clear hbx hb1
           have hbx := hby
           clear hby
           obtain ⟨a0, a1, a2, a3, -⟩ := (HA.out.below hbx HA.out.lt).facts
           obtain ⟨q0, q1, q2, q3, -⟩ := (HQ.out.below hbx HQ.out.lt).facts)
        | (go_at_call 14
           ((with_reducible refine (refHas_any q c _ hlt).mono ?_); rintro e w1 ⟨rfl, hb1⟩)
           have hby : Below wr.heap.size wr w1 := by first | exact hbx.trans (hb1.mono hbx.size) | exact hbx.drew.trans (hb1.mono hbx.size) | exact hbx.drew.drew.trans (hb1.mono hbx.size)
           clear hbx hb1
           have hbx := hby
           clear hby
           obtain ⟨a0, a1, a2, a3, -⟩ := (HA.out.below hbx HA.out.lt).facts
           obtain ⟨q0, q1, q2, q3, -⟩ := (HQ.out.below hbx HQ.out.lt).facts))
      all_goals
        obtain ⟨o0, o1, o2, o3, -⟩ := (HO.out.below hbx HO.out.lt).facts
        have hlo1 := (HO.out.below hbx HO.out.lt).lt
        by_cases hyes : (fun c => p c && !q c) c = true
        · have hst := Lib.hid (sel_yes (fun c => p c && !q c) c hyes)
          have hW := Lib.hid fun w => with_any (sel (fun c => p c && !q c) c) c w hlt
          generalize sel (fun c => p c && !q c) c = s at *
          cases hpc : p c <;> cases hqc : q c
          all_goals first
            | (exfalso
               simp only [hpc, hqc] at hyes
               done)
            | (exfalso
               revert hyes
               simp only [hpc, hqc]
               decide)
            | skip
          all_goals
            go_wp2_with
              (go_at_call 27
               refine (hW.out _).mono ?_
               rintro e w2 ⟨rfl, hb2⟩
               have hby : Below wr.heap.size wr w2 := by first | exact hbx.trans (hb2.mono hbx.size) | exact hbx.drew.trans (hb2.mono hbx.size) | exact hbx.drew.drew.trans (hb2.mono hbx.size)
               obtain ⟨z0, z1, z2, z3, y0, y1, y2, y3⟩ := (HO.out.below hby HO.out.lt).facts
               have hlo2 := (HO.out.below hby HO.out.lt).lt)
          all_goals go_roundw
          all_goals first
            | (refine ⟨c + 1, by omega, by go_num, (((((HA.out.below hby HA.out.lt).far (by simp <;> omega) _).far (by simp <;> omega) _).far (by simp <;> omega) _).far (by simp <;> omega) _), (((((HQ.out.below hby HQ.out.lt).far (by simp <;> omega) _).far (by simp <;> omega) _).far (by simp <;> omega) _).far (by simp <;> omega) _), (((((HR.out.below hby HR.out.lt).far (by simp <;> omega) _).far (by simp <;> omega) _).far (by simp <;> omega) _).far (by simp <;> omega) _), by rw [← hst.out]; exact (HO.out.below hby HO.out.lt).store (Sets.ins s c), ?_⟩
               exact (((((hb.trans (hby.mono hb.size)).setCell (p := ⟨_, 0, none⟩) (by simp <;> omega) _).setCell (p := ⟨_, 1, none⟩) (by simp <;> omega) _).setCell (p := ⟨_, 2, none⟩) (by simp <;> omega) _).setCell (p := ⟨_, 3, none⟩) (by simp <;> omega) _))
            | (simp [intOf]
               omega)
        · have hst := Lib.hid (sel_no (fun c => p c && !q c) c (by simpa using hyes))
          generalize sel (fun c => p c && !q c) c = s at *
          cases hpc : p c <;> cases hqc : q c
          all_goals first
            | (exfalso
               apply hyes
               simp only [hpc, hqc]
               done)
            | (exfalso
               apply hyes
               simp only [hpc, hqc]
               decide)
            | skip
          all_goals go_wp2
          all_goals go_roundw
          all_goals first
            | exact ⟨c + 1, by omega, by go_num, HA.out.below hbx HA.out.lt, HQ.out.below hbx HQ.out.lt, HR.out.below hbx HR.out.lt, by rw [← hst.out]; exact HO.out.below hbx HO.out.lt, hb.trans (hbx.mono hb.size)⟩
            | exact ⟨c + 1, by omega, by go_num, HA.out.below hbx.drew HA.out.lt, HQ.out.below hbx.drew HQ.out.lt, HR.out.below hbx.drew HR.out.lt, by rw [← hst.out]; exact HO.out.below hbx.drew HO.out.lt, hb.trans (hbx.drew.mono hb.size)⟩
            | (simp [intOf]
               omega)
    · obtain rfl : c = 256 := by omega
      have hu4 : Var wr (w.heap.size + 3) (fun c => p c && !q c) := Var.congr ho fun j hj => sel_end _ _ hj
      obtain ⟨c0, c1, c2, c3, -⟩ := hu4.facts
      obtain ⟨d0, d1, d2, d3, f0, f1, f2, f3⟩ := hr.facts
      have hl1 := hu4.lt
      have hl0 := hr.lt
      clear ha hq ho hr hu4
      go_wp2
      refine bodyPost_ret (v := .agg #[.int .u64 (Sets.wordOf (fun c => p c && !q c) 0 : Nat), .int .u64 (Sets.wordOf (fun c => p c && !q c) 1 : Nat), .int .u64 (Sets.wordOf (fun c => p c && !q c) 2 : Nat), .int .u64 (Sets.wordOf (fun c => p c && !q c) 3 : Nat)]) ?_ rfl ⟨rfl, ?_⟩
      · clear hb
        simp [results, Tryd.results30, go_sem, d0, d1, d2, d3]
      exact (((hb.setCell (p := ⟨_, 0, none⟩) (by simp <;> omega) _).setCell (p := ⟨_, 1, none⟩) (by simp <;> omega) _).setCell (p := ⟨_, 2, none⟩) (by simp <;> omega) _).setCell (p := ⟨_, 3, none⟩) (by simp <;> omega) _
end Go.Proofs.YtncdcdgmmbcbfaaDoor.CharComb
