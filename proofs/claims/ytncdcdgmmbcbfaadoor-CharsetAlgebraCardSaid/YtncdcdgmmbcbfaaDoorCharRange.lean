/- charset.Range and the reference's Range return the bytes between two. No condition. -/
import Derived.Test.YtncdcdgmmbcbfaaDoorCharRefOf
namespace Go.Proofs.YtncdcdgmmbcbfaaDoor.CharRange
open Go Go.RowKit CharHas CharWith CharOf CharRefOf

/-- the bytes from lo on that are below n -/
def rng (lo n : Nat) : Nat → Bool := fun d => decide (lo ≤ d) && decide (d < n)
theorem rng_succ (lo c : Nat) (h : lo ≤ c) : Sets.ins (rng lo c) c = rng lo (c + 1) := by
  funext d
  simp only [Sets.ins, rng]
  rw [Bool.eq_iff_iff]
  simp
  omega
theorem rng_start (lo : Nat) : (fun _ => false) = rng lo lo := by
  funext d
  simp only [rng]
  rw [Bool.eq_iff_iff]
  simp
theorem rng_end (lo hi c : Nat) (h1 : hi < c) (h2 : c ≤ hi + 1 ∨ c = lo) : rng lo c = rng lo (hi + 1) := by
  funext d
  simp only [rng]
  rw [Bool.eq_iff_iff]
  simp
  omega

set_option maxHeartbeats 1000000 in
theorem range_any (lo hi : Nat) (w : World) (hlo : lo < 256) (hhi : hi < 256) :
    Calls Tryd.prog 11 #[.int .u8 (lo : Int), .int .u8 (hi : Int)] w
      fun e w' => e = .returned (.agg #[.int .u64 (Sets.wordOf (rng lo (hi + 1)) 0 : Nat), .int .u64 (Sets.wordOf (rng lo (hi + 1)) 1 : Nat), .int .u64 (Sets.wordOf (rng lo (hi + 1)) 2 : Nat), .int .u64 (Sets.wordOf (rng lo (hi + 1)) 3 : Nat)]) ∧ Below w.heap.size w w' := by
  go_enter Tryd.func11, Tryd.ntmps11
  go_wp2
  go_loopw [6] (fun i wr => ∃ c : Nat, lo ≤ c ∧ (c ≤ hi + 1 ∨ c = lo) ∧ i = .int .i64 c ∧ Var wr w.heap.size (fun _ => false) ∧ Var wr (w.heap.size + 1) (rng lo c) ∧ Below w.heap.size w wr) (fun i _ => hi + 1 - (intOf i).toNat)
  case atStart => exact ⟨lo, Nat.le_refl _, .inr rfl, rfl, (Var.two_fresh w).1, by rw [← rng_start]; exact (Var.two_fresh w).2, ((Below.refl _ _).alloc (Nat.le_refl _) _).alloc (by simp) _⟩
  case round =>
    obtain ⟨c, hc1, hc2, rfl, hv, hu, hb⟩ := hrel
    by_cases hlt : c ≤ hi
    · have hst := Lib.hid (rng_succ lo c hc1)
      have hc : c < 256 := by omega
      generalize rng lo c = p at *
      have hc4 : c / 64 < 4 := by omega
      have u1 := hu.at_ (c / 64) hc4
      have u2 := hu.free (c / 64)
      have ho := or_bit p c
      have hlt1 := hu.lt
      have HU := Lib.hid (hu.insert c hc)
      have HV := Lib.hid (hv.far (a := ⟨w.heap.size + 1, c / 64, none⟩) (by simp) (.int .u64 (Sets.wordOf (Sets.ins p c) (c / 64) : Nat)))
      clear hu hv
      have hlt' : (c : Int) ≤ (hi : Int) := by omega
      go_wp2
      go_region
      go_wp2
      go_roundw
      case rel => exact ⟨c + 1, by omega, by omega, by go_num, HV.out, by rw [← hst.out]; exact HU.out, (hb.setCell (p := ⟨w.heap.size + 1, c / 64, none⟩) (by simp) _).drew⟩
      case measure => simp [intOf]; omega
    · have hlt' : (hi : Int) < (c : Int) := by omega
      rw [rng_end lo hi c (by omega) hc2] at hu
      obtain ⟨c0, c1, c2, c3, -⟩ := hu.facts
      obtain ⟨d0, d1, d2, d3, f0, f1, f2, f3⟩ := hv.facts
      have hl1 := hu.lt
      have hl0 := hv.lt
      clear hu hv
      go_wp2
      refine bodyPost_ret (v := .agg #[.int .u64 (Sets.wordOf (rng lo (hi + 1)) 0 : Nat), .int .u64 (Sets.wordOf (rng lo (hi + 1)) 1 : Nat), .int .u64 (Sets.wordOf (rng lo (hi + 1)) 2 : Nat), .int .u64 (Sets.wordOf (rng lo (hi + 1)) 3 : Nat)]) ?_ rfl ⟨rfl, ?_⟩
      · clear hb
        simp [results, Tryd.results11, go_sem, d0, d1, d2, d3]
      exact (((hb.setCell (p := ⟨_, 0, none⟩) (Nat.le_refl _) _).setCell (p := ⟨_, 1, none⟩) (Nat.le_refl _) _).setCell (p := ⟨_, 2, none⟩) (Nat.le_refl _) _).setCell (p := ⟨_, 3, none⟩) (Nat.le_refl _) _
set_option maxHeartbeats 1000000 in
theorem refRange_any (lo hi : Nat) (w : World) (hlo : lo < 256) (hhi : hi < 256) :
    Calls Tryd.prog 12 #[.int .u8 (lo : Int), .int .u8 (hi : Int)] w
      fun e w' => e = .returned (.agg #[.int .u64 (Sets.wordOf (rng lo (hi + 1)) 0 : Nat), .int .u64 (Sets.wordOf (rng lo (hi + 1)) 1 : Nat), .int .u64 (Sets.wordOf (rng lo (hi + 1)) 2 : Nat), .int .u64 (Sets.wordOf (rng lo (hi + 1)) 3 : Nat)]) ∧ Below w.heap.size w w' := by
  go_enter Tryd.func12, Tryd.ntmps12
  go_wp2
  go_loopw [6] (fun i wr => ∃ c : Nat, lo ≤ c ∧ (c ≤ hi + 1 ∨ c = lo) ∧ i = .int .i64 c ∧ Var wr w.heap.size (fun _ => false) ∧ Var wr (w.heap.size + 1) (rng lo c) ∧ Below w.heap.size w wr) (fun i _ => hi + 1 - (intOf i).toNat)
  case atStart => exact ⟨lo, Nat.le_refl _, .inr rfl, rfl, (Var.two_fresh w).1, by rw [← rng_start]; exact (Var.two_fresh w).2, ((Below.refl _ _).alloc (Nat.le_refl _) _).alloc (by simp) _⟩
  case round =>
    obtain ⟨c, hc1, hc2, rfl, hv, hu, hb⟩ := hrel
    by_cases hlt : c ≤ hi
    · have hst := Lib.hid (rng_succ lo c hc1)
      have hc : c < 256 := by omega
      generalize rng lo c = p at *
      obtain ⟨c0, c1, c2, c3, -⟩ := hu.facts
      have hlt1 := hu.lt
      have HU := Lib.hid hu
      have HV := Lib.hid hv
      clear hu hv
      have hlt' : (c : Int) ≤ (hi : Int) := by omega
      go_wp2_with (go_at_call 27
                   refine (with_any p c _ hc).mono ?_
                   rintro e w1 ⟨rfl, hb1⟩
                   have hu1 : Var w1 (w.heap.size + 1) p := HU.out.below hb1 hlt1
                   have hv1 : Var w1 w.heap.size (fun _ => false) := HV.out.below hb1 HV.out.lt
                   obtain ⟨d0, d1, d2, d3, f0, f1, f2, f3⟩ := hu1.facts
                   have hl1 := hu1.lt
                   have HU1 := Lib.hid hu1
                   have HV1 := Lib.hid hv1
                   clear hu1 hv1)
      go_roundw
      case rel =>
        refine ⟨c + 1, by omega, by omega, by go_num, (((HV1.out.far (by simp) _).far (by simp) _).far (by simp) _).far (by simp) _, by rw [← hst.out]; exact HU1.out.store (Sets.ins p c), ?_⟩
        exact (((((hb.trans (hb1.mono hb.size)).setCell (p := ⟨_, 0, none⟩) (by simp) _).setCell (p := ⟨_, 1, none⟩) (by simp) _).setCell (p := ⟨_, 2, none⟩) (by simp) _).setCell (p := ⟨_, 3, none⟩) (by simp) _)
      case measure => simp [intOf]; omega
    · have hlt' : (hi : Int) < (c : Int) := by omega
      rw [rng_end lo hi c (by omega) hc2] at hu
      obtain ⟨c0, c1, c2, c3, -⟩ := hu.facts
      obtain ⟨d0, d1, d2, d3, f0, f1, f2, f3⟩ := hv.facts
      have hl1 := hu.lt
      have hl0 := hv.lt
      clear hu hv
      go_wp2
      refine bodyPost_ret (v := .agg #[.int .u64 (Sets.wordOf (rng lo (hi + 1)) 0 : Nat), .int .u64 (Sets.wordOf (rng lo (hi + 1)) 1 : Nat), .int .u64 (Sets.wordOf (rng lo (hi + 1)) 2 : Nat), .int .u64 (Sets.wordOf (rng lo (hi + 1)) 3 : Nat)]) ?_ rfl ⟨rfl, ?_⟩
      · clear hb
        simp [results, Tryd.results12, go_sem, d0, d1, d2, d3]
      exact (((hb.setCell (p := ⟨_, 0, none⟩) (Nat.le_refl _) _).setCell (p := ⟨_, 1, none⟩) (Nat.le_refl _) _).setCell (p := ⟨_, 2, none⟩) (Nat.le_refl _) _).setCell (p := ⟨_, 3, none⟩) (Nat.le_refl _) _
end Go.Proofs.YtncdcdgmmbcbfaaDoor.CharRange
