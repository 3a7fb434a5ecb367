/- charset.Union, Intersect, Minus and Complement return the union, the intersection, the difference and the complement of sets. No condition. -/
import Derived.Test.YtncdcdgmmbcbfaaDoorCharRange
namespace Go.Proofs.YtncdcdgmmbcbfaaDoor.CharOps
open Go Go.RowKit CharHas CharWith CharOf CharRefOf CharRange

/-- words below i of one set, the others of another one -/
def mix (f g : Nat → Bool) (i : Nat) : Nat → Bool := fun c => if c / 64 < i then f c else g c
theorem mix_low (f g : Nat → Bool) (i j : Nat) (h : j < i) : Sets.wordOf (mix f g i) j = Sets.wordOf f j :=
  Sets.wordOf_congr _ _ j fun k hk => by
    simp only [mix]
    rw [if_pos (by omega)]
theorem mix_high (f g : Nat → Bool) (i j : Nat) (h : i ≤ j) : Sets.wordOf (mix f g i) j = Sets.wordOf g j :=
  Sets.wordOf_congr _ _ j fun k hk => by
    simp only [mix]
    rw [if_neg (by omega)]
theorem Var.congr {w : World} {g : Nat} {p q : Nat → Bool} (h : Var w g p) (e : ∀ j, j < 4 → Sets.wordOf p j = Sets.wordOf q j) : Var w g q := by
  unfold Var at h ⊢
  rw [← e 0 (by decide), ← e 1 (by decide), ← e 2 (by decide), ← e 3 (by decide)]
  exact h
theorem Var.step {w : World} {b : Nat} {f g : Nat → Bool} {i : Nat} (h : Var w b (mix f g i)) (hi : i < 4) : Var (w.setCell ⟨b, i, none⟩ (.int .u64 (Sets.wordOf f i : Nat))) b (mix f g (i + 1)) := by
  have h1 := heap_set (i := i) h (.int .u64 (Sets.wordOf f i : Nat))
  unfold Var
  rw [h1]
  have hoth : ∀ j, j ≠ i → Sets.wordOf (mix f g (i + 1)) j = Sets.wordOf (mix f g i) j := fun j hj => by
    by_cases hl : j < i
    · rw [mix_low _ _ _ _ (by omega), mix_low _ _ _ _ hl]
    · rw [mix_high _ _ _ _ (by omega), mix_high _ _ _ _ (by omega)]
  have hsame : Sets.wordOf (mix f g (i + 1)) i = Sets.wordOf f i := mix_low _ _ _ _ (by omega)
  have : i = 0 ∨ i = 1 ∨ i = 2 ∨ i = 3 := by omega
  rcases this with rfl | rfl | rfl | rfl
  · rw [hoth 1 (by decide), hoth 2 (by decide), hoth 3 (by decide), hsame]; rfl
  · rw [hoth 0 (by decide), hoth 2 (by decide), hoth 3 (by decide), hsame]; rfl
  · rw [hoth 0 (by decide), hoth 1 (by decide), hoth 3 (by decide), hsame]; rfl
  · rw [hoth 0 (by decide), hoth 1 (by decide), hoth 2 (by decide), hsame]; rfl
theorem or_word (p q : Nat → Bool) (j : Nat) : bits .or .u64 (Sets.wordOf p j : Int) (Sets.wordOf q j : Int) = (Sets.wordOf (fun c => p c || q c) j : Int) := by
  rw [u64_or_nat _ _ (Sets.wordOf_lt p _) (Sets.wordOf_lt q _), Sets.word_or]
theorem and_word (p q : Nat → Bool) (j : Nat) : bits .and .u64 (Sets.wordOf p j : Int) (Sets.wordOf q j : Int) = (Sets.wordOf (fun c => p c && q c) j : Int) := by
  rw [u64_and_nat _ _ (Sets.wordOf_lt p _) (Sets.wordOf_lt q _), Sets.word_and]
theorem andNot_word (p q : Nat → Bool) (j : Nat) : bits .andNot .u64 (Sets.wordOf p j : Int) (Sets.wordOf q j : Int) = (Sets.wordOf (fun c => p c && !q c) j : Int) := by
  rw [u64_andNot_nat _ _ (Sets.wordOf_lt p _) (Sets.wordOf_lt q _), Sets.word_andNot]
theorem max_xor64 (c : Nat) (h : c < 18446744073709551616) : 18446744073709551615 ^^^ c = 18446744073709551615 - c := by
  have e : (BitVec.allOnes 64 ^^^ BitVec.ofNat 64 c) = ~~~(BitVec.ofNat 64 c) := BitVec.allOnes_xor
  have e2 := congrArg BitVec.toNat e
  rw [BitVec.toNat_xor, BitVec.toNat_not, BitVec.toNat_allOnes, BitVec.toNat_ofNat, Nat.mod_eq_of_lt (by simpa using h)] at e2
  simpa using e2
theorem not_word (p : Nat → Bool) (j : Nat) : bits .xor .u64 IntKind.u64.max (Sets.wordOf p j : Int) = (Sets.wordOf (fun c => !p c) j : Int) := by
  rw [show IntKind.u64.max = ((18446744073709551615 : Nat) : Int) from rfl, u64_xor_nat _ _ (by decide) (Sets.wordOf_lt p _), max_xor64 _ (Sets.wordOf_lt p _), Sets.word_not]

theorem Var.boxed (w : World) (p : Nat → Bool) : Var (w.alloc (.cells #[.int .u64 (Sets.wordOf (p) 0 : Nat), .int .u64 (Sets.wordOf (p) 1 : Nat), .int .u64 (Sets.wordOf (p) 2 : Nat), .int .u64 (Sets.wordOf (p) 3 : Nat)] 26)) w.heap.size p := heap_alloc_new w _
theorem Var.boxed1 (w : World) (p q : Nat → Bool) : Var ((w.alloc (.cells #[.int .u64 (Sets.wordOf (p) 0 : Nat), .int .u64 (Sets.wordOf (p) 1 : Nat), .int .u64 (Sets.wordOf (p) 2 : Nat), .int .u64 (Sets.wordOf (p) 3 : Nat)] 26)).alloc (.cells #[.int .u64 (Sets.wordOf (q) 0 : Nat), .int .u64 (Sets.wordOf (q) 1 : Nat), .int .u64 (Sets.wordOf (q) 2 : Nat), .int .u64 (Sets.wordOf (q) 3 : Nat)] 26)) (w.heap.size + 1) q := by
  have := Var.boxed (w.alloc (.cells #[.int .u64 (Sets.wordOf (p) 0 : Nat), .int .u64 (Sets.wordOf (p) 1 : Nat), .int .u64 (Sets.wordOf (p) 2 : Nat), .int .u64 (Sets.wordOf (p) 3 : Nat)] 26)) q
  rwa [show (w.alloc (.cells #[.int .u64 (Sets.wordOf (p) 0 : Nat), .int .u64 (Sets.wordOf (p) 1 : Nat), .int .u64 (Sets.wordOf (p) 2 : Nat), .int .u64 (Sets.wordOf (p) 3 : Nat)] 26)).heap.size = w.heap.size + 1 from by simp] at this
theorem Var.fresh1 (w : World) (p : Nat → Bool) : Var ((w.alloc (.cells #[.int .u64 (Sets.wordOf (p) 0 : Nat), .int .u64 (Sets.wordOf (p) 1 : Nat), .int .u64 (Sets.wordOf (p) 2 : Nat), .int .u64 (Sets.wordOf (p) 3 : Nat)] 26)).alloc (.cells #[.int .u64 0, .int .u64 0, .int .u64 0, .int .u64 0] 26)) (w.heap.size + 1) (fun _ => false) := by
  have := Var.fresh (w.alloc (.cells #[.int .u64 (Sets.wordOf (p) 0 : Nat), .int .u64 (Sets.wordOf (p) 1 : Nat), .int .u64 (Sets.wordOf (p) 2 : Nat), .int .u64 (Sets.wordOf (p) 3 : Nat)] 26))
  rwa [show (w.alloc (.cells #[.int .u64 (Sets.wordOf (p) 0 : Nat), .int .u64 (Sets.wordOf (p) 1 : Nat), .int .u64 (Sets.wordOf (p) 2 : Nat), .int .u64 (Sets.wordOf (p) 3 : Nat)] 26)).heap.size = w.heap.size + 1 from by simp] at this
theorem Var.fresh2 (w : World) (p q : Nat → Bool) : Var (((w.alloc (.cells #[.int .u64 (Sets.wordOf (p) 0 : Nat), .int .u64 (Sets.wordOf (p) 1 : Nat), .int .u64 (Sets.wordOf (p) 2 : Nat), .int .u64 (Sets.wordOf (p) 3 : Nat)] 26)).alloc (.cells #[.int .u64 (Sets.wordOf (q) 0 : Nat), .int .u64 (Sets.wordOf (q) 1 : Nat), .int .u64 (Sets.wordOf (q) 2 : Nat), .int .u64 (Sets.wordOf (q) 3 : Nat)] 26)).alloc (.cells #[.int .u64 0, .int .u64 0, .int .u64 0, .int .u64 0] 26)) (w.heap.size + 2) (fun _ => false) := by
  have := Var.fresh ((w.alloc (.cells #[.int .u64 (Sets.wordOf (p) 0 : Nat), .int .u64 (Sets.wordOf (p) 1 : Nat), .int .u64 (Sets.wordOf (p) 2 : Nat), .int .u64 (Sets.wordOf (p) 3 : Nat)] 26)).alloc (.cells #[.int .u64 (Sets.wordOf (q) 0 : Nat), .int .u64 (Sets.wordOf (q) 1 : Nat), .int .u64 (Sets.wordOf (q) 2 : Nat), .int .u64 (Sets.wordOf (q) 3 : Nat)] 26))
  rwa [show ((w.alloc (.cells #[.int .u64 (Sets.wordOf (p) 0 : Nat), .int .u64 (Sets.wordOf (p) 1 : Nat), .int .u64 (Sets.wordOf (p) 2 : Nat), .int .u64 (Sets.wordOf (p) 3 : Nat)] 26)).alloc (.cells #[.int .u64 (Sets.wordOf (q) 0 : Nat), .int .u64 (Sets.wordOf (q) 1 : Nat), .int .u64 (Sets.wordOf (q) 2 : Nat), .int .u64 (Sets.wordOf (q) 3 : Nat)] 26)).heap.size = w.heap.size + 2 from by simp] at this
set_option maxHeartbeats 1000000 in
theorem union_any (p q : Nat → Bool) (w : World) :
    Calls Tryd.prog 19 #[.agg #[.int .u64 (Sets.wordOf (p) 0 : Nat), .int .u64 (Sets.wordOf (p) 1 : Nat), .int .u64 (Sets.wordOf (p) 2 : Nat), .int .u64 (Sets.wordOf (p) 3 : Nat)], .agg #[.int .u64 (Sets.wordOf (q) 0 : Nat), .int .u64 (Sets.wordOf (q) 1 : Nat), .int .u64 (Sets.wordOf (q) 2 : Nat), .int .u64 (Sets.wordOf (q) 3 : Nat)]] w fun e w' => e = .returned (.agg #[.int .u64 (Sets.wordOf (fun c => p c || q c) 0 : Nat), .int .u64 (Sets.wordOf (fun c => p c || q c) 1 : Nat), .int .u64 (Sets.wordOf (fun c => p c || q c) 2 : Nat), .int .u64 (Sets.wordOf (fun c => p c || q c) 3 : Nat)]) ∧ Below w.heap.size w w' := by
  have hop : ∀ j, bits .or .u64 (Sets.wordOf p j : Int) (Sets.wordOf q j : Int) = (Sets.wordOf (fun c => p c || q c) j : Int) := fun j => or_word p q j
  go_enter Tryd.func19, Tryd.ntmps19
  go_wp2
  go_loopw [6] (fun i wr => ∃ k : Nat, k ≤ 4 ∧ i = .int .i64 k ∧ Var wr w.heap.size (mix (fun c => p c || q c) p k) ∧ Var wr (w.heap.size + 1) q ∧ Var wr (w.heap.size + 2) (fun _ => false) ∧ Below w.heap.size w wr) (fun i _ => 4 - (intOf i).toNat)
  case atStart => exact ⟨0, by omega, rfl, Var.congr ((Var.boxed w p).keep (by rw [Below.heap_alloc _ _ _ (by simp; omega), Below.heap_alloc _ _ _ (by simp)])) (fun j _ => (mix_high _ _ 0 j (Nat.zero_le _)).symm), (Var.boxed1 w p q).keep (Below.heap_alloc _ _ _ (by simp)), Var.fresh2 w p q, (((Below.refl _ _).alloc (Nat.le_refl _) _).alloc (by simp) _).alloc (by simp; omega) _⟩
  case round =>
    obtain ⟨k, hk, rfl, hu, hq, hv, hb⟩ := hrel
    by_cases hlt : k < 4
    · have u1 := hu.at_ k hlt
      rw [mix_high _ _ _ _ (Nat.le_refl _)] at u1
      have u2 := hu.free k
      have q1 := hq.at_ k hlt
      have hqlt := hq.lt
      have ho := hop k
      have hlt1 := hu.lt
      have HU := Lib.hid (Var.step hu hlt)
      have HV := Lib.hid (hv.far (a := ⟨w.heap.size, k, none⟩) (by simp) (.int .u64 (Sets.wordOf (fun c => p c || q c) k : Nat)))
      have HQ := Lib.hid (hq.far (a := ⟨w.heap.size, k, none⟩) (by simp) (.int .u64 (Sets.wordOf (fun c => p c || q c) k : Nat)))
      clear hu hv hop hq
      have hlt' : (k : Int) < 4 := by omega
      go_wp2
      go_region
      go_wp2
      go_roundw
      case rel => exact ⟨k + 1, by omega, by go_num, HU.out, HQ.out, HV.out, (hb.setCell (p := ⟨w.heap.size, k, none⟩) (Nat.le_refl _) _).drew⟩
      case measure => simp [intOf]; omega
    · obtain rfl : k = 4 := by omega
      have hu4 : Var wr w.heap.size (fun c => p c || q c) := Var.congr hu fun j hj => mix_low _ _ _ _ hj
      obtain ⟨c0, c1, c2, c3, -⟩ := hu4.facts
      obtain ⟨d0, d1, d2, d3, f0, f1, f2, f3⟩ := hv.facts
      have hl1 := hu4.lt
      have hl0 := hv.lt
      clear hu hu4 hv hop hq
      go_wp2
      refine bodyPost_ret (v := .agg #[.int .u64 (Sets.wordOf (fun c => p c || q c) 0 : Nat), .int .u64 (Sets.wordOf (fun c => p c || q c) 1 : Nat), .int .u64 (Sets.wordOf (fun c => p c || q c) 2 : Nat), .int .u64 (Sets.wordOf (fun c => p c || q c) 3 : Nat)]) ?_ rfl ⟨rfl, ?_⟩
      · clear hb
        simp [results, Tryd.results19, go_sem, d0, d1, d2, d3]
      exact (((hb.setCell (p := ⟨_, 0, none⟩) (by simp; try omega) _).setCell (p := ⟨_, 1, none⟩) (by simp; try omega) _).setCell (p := ⟨_, 2, none⟩) (by simp; try omega) _).setCell (p := ⟨_, 3, none⟩) (by simp; try omega) _
set_option maxHeartbeats 1000000 in
theorem intersect_any (p q : Nat → Bool) (w : World) :
    Calls Tryd.prog 20 #[.agg #[.int .u64 (Sets.wordOf (p) 0 : Nat), .int .u64 (Sets.wordOf (p) 1 : Nat), .int .u64 (Sets.wordOf (p) 2 : Nat), .int .u64 (Sets.wordOf (p) 3 : Nat)], .agg #[.int .u64 (Sets.wordOf (q) 0 : Nat), .int .u64 (Sets.wordOf (q) 1 : Nat), .int .u64 (Sets.wordOf (q) 2 : Nat), .int .u64 (Sets.wordOf (q) 3 : Nat)]] w fun e w' => e = .returned (.agg #[.int .u64 (Sets.wordOf (fun c => p c && q c) 0 : Nat), .int .u64 (Sets.wordOf (fun c => p c && q c) 1 : Nat), .int .u64 (Sets.wordOf (fun c => p c && q c) 2 : Nat), .int .u64 (Sets.wordOf (fun c => p c && q c) 3 : Nat)]) ∧ Below w.heap.size w w' := by
  have hop : ∀ j, bits .and .u64 (Sets.wordOf p j : Int) (Sets.wordOf q j : Int) = (Sets.wordOf (fun c => p c && q c) j : Int) := fun j => and_word p q j
  go_enter Tryd.func20, Tryd.ntmps20
  go_wp2
  go_loopw [6] (fun i wr => ∃ k : Nat, k ≤ 4 ∧ i = .int .i64 k ∧ Var wr w.heap.size (mix (fun c => p c && q c) p k) ∧ Var wr (w.heap.size + 1) q ∧ Var wr (w.heap.size + 2) (fun _ => false) ∧ Below w.heap.size w wr) (fun i _ => 4 - (intOf i).toNat)
  case atStart => exact ⟨0, by omega, rfl, Var.congr ((Var.boxed w p).keep (by rw [Below.heap_alloc _ _ _ (by simp; omega), Below.heap_alloc _ _ _ (by simp)])) (fun j _ => (mix_high _ _ 0 j (Nat.zero_le _)).symm), (Var.boxed1 w p q).keep (Below.heap_alloc _ _ _ (by simp)), Var.fresh2 w p q, (((Below.refl _ _).alloc (Nat.le_refl _) _).alloc (by simp) _).alloc (by simp; omega) _⟩
  case round =>
    obtain ⟨k, hk, rfl, hu, hq, hv, hb⟩ := hrel
    by_cases hlt : k < 4
    · have u1 := hu.at_ k hlt
      rw [mix_high _ _ _ _ (Nat.le_refl _)] at u1
      have u2 := hu.free k
      have q1 := hq.at_ k hlt
      have hqlt := hq.lt
      have ho := hop k
      have hlt1 := hu.lt
      have HU := Lib.hid (Var.step hu hlt)
      have HV := Lib.hid (hv.far (a := ⟨w.heap.size, k, none⟩) (by simp) (.int .u64 (Sets.wordOf (fun c => p c && q c) k : Nat)))
      have HQ := Lib.hid (hq.far (a := ⟨w.heap.size, k, none⟩) (by simp) (.int .u64 (Sets.wordOf (fun c => p c && q c) k : Nat)))
      clear hu hv hop hq
      have hlt' : (k : Int) < 4 := by omega
      go_wp2
      go_region
      go_wp2
      go_roundw
      case rel => exact ⟨k + 1, by omega, by go_num, HU.out, HQ.out, HV.out, (hb.setCell (p := ⟨w.heap.size, k, none⟩) (Nat.le_refl _) _).drew⟩
      case measure => simp [intOf]; omega
    · obtain rfl : k = 4 := by omega
      have hu4 : Var wr w.heap.size (fun c => p c && q c) := Var.congr hu fun j hj => mix_low _ _ _ _ hj
      obtain ⟨c0, c1, c2, c3, -⟩ := hu4.facts
      obtain ⟨d0, d1, d2, d3, f0, f1, f2, f3⟩ := hv.facts
      have hl1 := hu4.lt
      have hl0 := hv.lt
      clear hu hu4 hv hop hq
      go_wp2
      refine bodyPost_ret (v := .agg #[.int .u64 (Sets.wordOf (fun c => p c && q c) 0 : Nat), .int .u64 (Sets.wordOf (fun c => p c && q c) 1 : Nat), .int .u64 (Sets.wordOf (fun c => p c && q c) 2 : Nat), .int .u64 (Sets.wordOf (fun c => p c && q c) 3 : Nat)]) ?_ rfl ⟨rfl, ?_⟩
      · clear hb
        simp [results, Tryd.results20, go_sem, d0, d1, d2, d3]
      exact (((hb.setCell (p := ⟨_, 0, none⟩) (by simp; try omega) _).setCell (p := ⟨_, 1, none⟩) (by simp; try omega) _).setCell (p := ⟨_, 2, none⟩) (by simp; try omega) _).setCell (p := ⟨_, 3, none⟩) (by simp; try omega) _
set_option maxHeartbeats 1000000 in
theorem minus_any (p q : Nat → Bool) (w : World) :
    Calls Tryd.prog 23 #[.agg #[.int .u64 (Sets.wordOf (p) 0 : Nat), .int .u64 (Sets.wordOf (p) 1 : Nat), .int .u64 (Sets.wordOf (p) 2 : Nat), .int .u64 (Sets.wordOf (p) 3 : Nat)], .agg #[.int .u64 (Sets.wordOf (q) 0 : Nat), .int .u64 (Sets.wordOf (q) 1 : Nat), .int .u64 (Sets.wordOf (q) 2 : Nat), .int .u64 (Sets.wordOf (q) 3 : Nat)]] w fun e w' => e = .returned (.agg #[.int .u64 (Sets.wordOf (fun c => p c && !q c) 0 : Nat), .int .u64 (Sets.wordOf (fun c => p c && !q c) 1 : Nat), .int .u64 (Sets.wordOf (fun c => p c && !q c) 2 : Nat), .int .u64 (Sets.wordOf (fun c => p c && !q c) 3 : Nat)]) ∧ Below w.heap.size w w' := by
  have hop : ∀ j, bits .andNot .u64 (Sets.wordOf p j : Int) (Sets.wordOf q j : Int) = (Sets.wordOf (fun c => p c && !q c) j : Int) := fun j => andNot_word p q j
  go_enter Tryd.func23, Tryd.ntmps23
  go_wp2
  go_loopw [6] (fun i wr => ∃ k : Nat, k ≤ 4 ∧ i = .int .i64 k ∧ Var wr w.heap.size (mix (fun c => p c && !q c) p k) ∧ Var wr (w.heap.size + 1) q ∧ Var wr (w.heap.size + 2) (fun _ => false) ∧ Below w.heap.size w wr) (fun i _ => 4 - (intOf i).toNat)
  case atStart => exact ⟨0, by omega, rfl, Var.congr ((Var.boxed w p).keep (by rw [Below.heap_alloc _ _ _ (by simp; omega), Below.heap_alloc _ _ _ (by simp)])) (fun j _ => (mix_high _ _ 0 j (Nat.zero_le _)).symm), (Var.boxed1 w p q).keep (Below.heap_alloc _ _ _ (by simp)), Var.fresh2 w p q, (((Below.refl _ _).alloc (Nat.le_refl _) _).alloc (by simp) _).alloc (by simp; omega) _⟩
  case round =>
    obtain ⟨k, hk, rfl, hu, hq, hv, hb⟩ := hrel
    by_cases hlt : k < 4
    · have u1 := hu.at_ k hlt
      rw [mix_high _ _ _ _ (Nat.le_refl _)] at u1
      have u2 := hu.free k
      have q1 := hq.at_ k hlt
      have hqlt := hq.lt
      have ho := hop k
      have hlt1 := hu.lt
      have HU := Lib.hid (Var.step hu hlt)
      have HV := Lib.hid (hv.far (a := ⟨w.heap.size, k, none⟩) (by simp) (.int .u64 (Sets.wordOf (fun c => p c && !q c) k : Nat)))
      have HQ := Lib.hid (hq.far (a := ⟨w.heap.size, k, none⟩) (by simp) (.int .u64 (Sets.wordOf (fun c => p c && !q c) k : Nat)))
      clear hu hv hop hq
      have hlt' : (k : Int) < 4 := by omega
      go_wp2
      go_region
      go_wp2
      go_roundw
      case rel => exact ⟨k + 1, by omega, by go_num, HU.out, HQ.out, HV.out, (hb.setCell (p := ⟨w.heap.size, k, none⟩) (Nat.le_refl _) _).drew⟩
      case measure => simp [intOf]; omega
    · obtain rfl : k = 4 := by omega
      have hu4 : Var wr w.heap.size (fun c => p c && !q c) := Var.congr hu fun j hj => mix_low _ _ _ _ hj
      obtain ⟨c0, c1, c2, c3, -⟩ := hu4.facts
      obtain ⟨d0, d1, d2, d3, f0, f1, f2, f3⟩ := hv.facts
      have hl1 := hu4.lt
      have hl0 := hv.lt
      clear hu hu4 hv hop hq
      go_wp2
      refine bodyPost_ret (v := .agg #[.int .u64 (Sets.wordOf (fun c => p c && !q c) 0 : Nat), .int .u64 (Sets.wordOf (fun c => p c && !q c) 1 : Nat), .int .u64 (Sets.wordOf (fun c => p c && !q c) 2 : Nat), .int .u64 (Sets.wordOf (fun c => p c && !q c) 3 : Nat)]) ?_ rfl ⟨rfl, ?_⟩
      · clear hb
        simp [results, Tryd.results23, go_sem, d0, d1, d2, d3]
      exact (((hb.setCell (p := ⟨_, 0, none⟩) (by simp; try omega) _).setCell (p := ⟨_, 1, none⟩) (by simp; try omega) _).setCell (p := ⟨_, 2, none⟩) (by simp; try omega) _).setCell (p := ⟨_, 3, none⟩) (by simp; try omega) _
set_option maxHeartbeats 1000000 in
theorem complement_any (p : Nat → Bool) (w : World) :
    Calls Tryd.prog 25 #[.agg #[.int .u64 (Sets.wordOf (p) 0 : Nat), .int .u64 (Sets.wordOf (p) 1 : Nat), .int .u64 (Sets.wordOf (p) 2 : Nat), .int .u64 (Sets.wordOf (p) 3 : Nat)]] w fun e w' => e = .returned (.agg #[.int .u64 (Sets.wordOf (fun c => !p c) 0 : Nat), .int .u64 (Sets.wordOf (fun c => !p c) 1 : Nat), .int .u64 (Sets.wordOf (fun c => !p c) 2 : Nat), .int .u64 (Sets.wordOf (fun c => !p c) 3 : Nat)]) ∧ Below w.heap.size w w' := by
  have hop : ∀ j, bits .xor .u64 IntKind.u64.max (Sets.wordOf p j : Int) = (Sets.wordOf (fun c => !p c) j : Int) := fun j => not_word p j
  go_enter Tryd.func25, Tryd.ntmps25
  go_wp2
  go_loopw [4] (fun i wr => ∃ k : Nat, k ≤ 4 ∧ i = .int .i64 k ∧ Var wr w.heap.size (mix (fun c => !p c) p k) ∧ Var wr (w.heap.size + 1) (fun _ => false) ∧ Below w.heap.size w wr) (fun i _ => 4 - (intOf i).toNat)
  case atStart => exact ⟨0, by omega, rfl, Var.congr ((Var.boxed w p).keep (Below.heap_alloc _ _ _ (by simp))) (fun j _ => (mix_high _ _ 0 j (Nat.zero_le _)).symm), Var.fresh1 w p, ((Below.refl _ _).alloc (Nat.le_refl _) _).alloc (by simp) _⟩
  case round =>
    obtain ⟨k, hk, rfl, hu, hv, hb⟩ := hrel
    by_cases hlt : k < 4
    · have u1 := hu.at_ k hlt
      rw [mix_high _ _ _ _ (Nat.le_refl _)] at u1
      have u2 := hu.free k
      skip
      have ho : bits .xor .u64 (if IntKind.u64.signed = true then -1 else IntKind.u64.max) (Sets.wordOf p k : Int) = (Sets.wordOf (fun c => !p c) k : Int) := hop k
      have hlt1 := hu.lt
      have HU := Lib.hid (Var.step hu hlt)
      have HV := Lib.hid (hv.far (a := ⟨w.heap.size, k, none⟩) (by simp) (.int .u64 (Sets.wordOf (fun c => !p c) k : Nat)))
      skip
      clear hu hv hop 
      have hlt' : (k : Int) < 4 := by omega
      go_wp2
      go_roundw
      case rel => exact ⟨k + 1, by omega, by go_num, HU.out,  HV.out, hb.setCell (p := ⟨w.heap.size, k, none⟩) (Nat.le_refl _) _⟩
      case measure => simp [intOf]; omega
    · obtain rfl : k = 4 := by omega
      have hu4 : Var wr w.heap.size (fun c => !p c) := Var.congr hu fun j hj => mix_low _ _ _ _ hj
      obtain ⟨c0, c1, c2, c3, -⟩ := hu4.facts
      obtain ⟨d0, d1, d2, d3, f0, f1, f2, f3⟩ := hv.facts
      have hl1 := hu4.lt
      have hl0 := hv.lt
      clear hu hu4 hv hop 
      go_wp2
      refine bodyPost_ret (v := .agg #[.int .u64 (Sets.wordOf (fun c => !p c) 0 : Nat), .int .u64 (Sets.wordOf (fun c => !p c) 1 : Nat), .int .u64 (Sets.wordOf (fun c => !p c) 2 : Nat), .int .u64 (Sets.wordOf (fun c => !p c) 3 : Nat)]) ?_ rfl ⟨rfl, ?_⟩
      · clear hb
        simp [results, Tryd.results25, go_sem, d0, d1, d2, d3]
      exact (((hb.setCell (p := ⟨_, 0, none⟩) (by simp; try omega) _).setCell (p := ⟨_, 1, none⟩) (by simp; try omega) _).setCell (p := ⟨_, 2, none⟩) (by simp; try omega) _).setCell (p := ⟨_, 3, none⟩) (by simp; try omega) _
end Go.Proofs.YtncdcdgmmbcbfaaDoor.CharOps
