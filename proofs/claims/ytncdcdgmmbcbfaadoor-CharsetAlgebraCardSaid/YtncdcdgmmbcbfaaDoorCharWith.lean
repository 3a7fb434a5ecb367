/- The reference's with returns a set and one byte more. No condition. -/
import Derived.Test.YtncdcdgmmbcbfaaDoorCharHas
namespace Go.Proofs.YtncdcdgmmbcbfaaDoor.CharWith
open Go Go.RowKit CharHas

/-- the cells of a set -/
def cells (p : Nat → Bool) : Array Value := #[.int .u64 (Sets.wordOf p 0 : Nat), .int .u64 (Sets.wordOf p 1 : Nat), .int .u64 (Sets.wordOf p 2 : Nat), .int .u64 (Sets.wordOf p 3 : Nat)]
theorem row_cell {w : World} {g : Nat} {cs : Array Value} {t : TypeId} (h : w.heap[g]? = some (.cells cs t (0, 0))) (j : Nat) : w.cell? ⟨g, j, none⟩ = cs[j]? := cell_of_row w g j cs t (0, 0) h
theorem row_free {w : World} {g : Nat} {cs : Array Value} {t : TypeId} (h : w.heap[g]? = some (.cells cs t (0, 0))) (j : Nat) : w.frozen? ⟨g, j, none⟩ = false := by simp [World.frozen?, h]

/-- the two newest blocks, after a call -/
theorem two {w w1 : World} {o1 o2 : Obj} (hb : Below ((w.alloc o1).alloc o2).heap.size ((w.alloc o1).alloc o2) w1) : w1.heap[w.heap.size]? = some o1 ∧ w1.heap[w.heap.size + 1]? = some o2 := by
  have e1 : ((w.alloc o1).alloc o2).heap[w.heap.size]? = some o1 := by
    rw [Below.heap_alloc _ _ _ (by simp)]
    exact heap_alloc_new w _
  have e2 : ((w.alloc o1).alloc o2).heap[w.heap.size + 1]? = some o2 := by
    have := heap_alloc_new (w.alloc o1) o2
    rwa [show (w.alloc o1).heap.size = w.heap.size + 1 from by simp] at this
  exact ⟨by rw [hb.block _ (by simp; omega), e1], by rw [hb.block _ (by simp), e2]⟩
theorem below2 {w w1 : World} {o1 o2 : Obj} (hb : Below ((w.alloc o1).alloc o2).heap.size ((w.alloc o1).alloc o2) w1) : Below w.heap.size w w1 :=
  (((Below.refl _ _).alloc (Nat.le_refl _) _).alloc (by simp) _).trans (hb.mono (by simp; omega))
set_option maxHeartbeats 1000000 in
theorem with_has (p : Nat → Bool) (c : Nat) (w : World) (hc : c < 256) (hp : p c = true) :
    Calls Tryd.prog 27 #[.agg #[.int .u64 (Sets.wordOf p 0 : Nat), .int .u64 (Sets.wordOf p 1 : Nat), .int .u64 (Sets.wordOf p 2 : Nat), .int .u64 (Sets.wordOf p 3 : Nat)], .int .u8 (c : Int)] w
      fun e w' => e = .returned (.agg #[.int .u64 (Sets.wordOf p 0 : Nat), .int .u64 (Sets.wordOf p 1 : Nat), .int .u64 (Sets.wordOf p 2 : Nat), .int .u64 (Sets.wordOf p 3 : Nat)]) ∧ Below w.heap.size w w' := by
  go_enter Tryd.func27, Tryd.ntmps27
  go_wp2_with (go_at_call 14
               refine (refHas_any p c _ hc).mono ?_
               rw [hp]
               rintro e w1 ⟨rfl, hb⟩
               obtain ⟨h0, h1⟩ := two hb
               have c0 := row_cell h0 0
               have c1 := row_cell h0 1
               have c2 := row_cell h0 2
               have c3 := row_cell h0 3
               have g0 := row_free h0 0
               have g1 := row_free h0 1
               have g2 := row_free h0 2
               have g3 := row_free h0 3
               have d0 := row_cell h1 0
               have d1 := row_cell h1 1
               have d2 := row_cell h1 2
               have d3 := row_cell h1 3
               have f0 := row_free h1 0
               have f1 := row_free h1 1
               have f2 := row_free h1 2
               have f3 := row_free h1 3
               have hz : w.heap.size + 1 < w1.heap.size := (Array.getElem?_eq_some_iff.1 h1).1
               have hz0 : w.heap.size < w1.heap.size := (Array.getElem?_eq_some_iff.1 h0).1
               clear h0 h1)
  refine bodyPost_ret (v := .agg #[.int .u64 (Sets.wordOf p 0 : Nat), .int .u64 (Sets.wordOf p 1 : Nat), .int .u64 (Sets.wordOf p 2 : Nat), .int .u64 (Sets.wordOf p 3 : Nat)]) (by simp [results, Tryd.results27, go_sem, d0, d1, d2, d3]) rfl ⟨rfl, ?_⟩
  exact ((((below2 hb).setCell (p := ⟨_, 0, none⟩) (by simp) _).setCell (p := ⟨_, 1, none⟩) (by simp) _).setCell (p := ⟨_, 2, none⟩) (by simp) _).setCell (p := ⟨_, 3, none⟩) (by simp) _
theorem shl_bit (r : Nat) (h : r < 64) : IntKind.u64.wrap ((2 : Int) ^ r) = ((2 ^ r : Nat) : Int) := by
  have : 2 ^ r < 18446744073709551616 := Nat.pow_lt_pow_right (a := 2) (m := r) (n := 64) (by decide) h
  rw [show ((2 : Int) ^ r) = ((2 ^ r : Nat) : Int) from by rw [Int.natCast_pow]; rfl]
  generalize 2 ^ r = x at *
  rw [IntKind.wrap_u64]
  omega
theorem add_bit (p : Nat → Bool) (c : Nat) (h : p c = false) : IntKind.u64.wrap ((Sets.wordOf p (c / 64) : Int) + IntKind.u64.wrap (2 ^ (c % 64))) = (Sets.wordOf (Sets.ins p c) (c / 64) : Int) := by
  have h1 := Sets.word_ins_add p c h
  have h2 := Sets.wordOf_lt (Sets.ins p c) (c / 64)
  rw [shl_bit _ (by omega), ← h1, IntKind.wrap_u64]
  omega
set_option maxHeartbeats 1000000 in
theorem with_new (p : Nat → Bool) (c : Nat) (w : World) (hc : c < 256) (hp : p c = false) (k : Nat) (hk : k < 4) (hck : c / 64 = k) :
    Calls Tryd.prog 27 #[.agg #[.int .u64 (Sets.wordOf p 0 : Nat), .int .u64 (Sets.wordOf p 1 : Nat), .int .u64 (Sets.wordOf p 2 : Nat), .int .u64 (Sets.wordOf p 3 : Nat)], .int .u8 (c : Int)] w
      fun e w' => e = .returned (.agg #[.int .u64 (Sets.wordOf (Sets.ins p c) 0 : Nat), .int .u64 (Sets.wordOf (Sets.ins p c) 1 : Nat), .int .u64 (Sets.wordOf (Sets.ins p c) 2 : Nat), .int .u64 (Sets.wordOf (Sets.ins p c) 3 : Nat)]) ∧ Below w.heap.size w w' := by
  have hci : (c : Int) / 64 = (k : Int) := by omega
  have hadd := add_bit p c hp
  rw [hck] at hadd
  have hoth : ∀ j, j ≠ k → Sets.wordOf (Sets.ins p c) j = Sets.wordOf p j := fun j hj => Sets.word_ins_other p c j (by omega)
  have hk4 : k = 0 ∨ k = 1 ∨ k = 2 ∨ k = 3 := by omega
  rcases hk4 with rfl | rfl | rfl | rfl
  · rw [hoth 1 (by decide), hoth 2 (by decide), hoth 3 (by decide)]
    clear hoth
    go_enter Tryd.func27, Tryd.ntmps27
    go_wp2_with (go_at_call 14
                 refine (refHas_any p c _ hc).mono ?_
                 rw [hp]
                 rintro e w1 ⟨rfl, hb⟩
                 obtain ⟨h0, h1⟩ := two hb
                 have c0 := row_cell h0 0
                 have c1 := row_cell h0 1
                 have c2 := row_cell h0 2
                 have c3 := row_cell h0 3
                 have g0 := row_free h0 0
                 have g1 := row_free h0 1
                 have g2 := row_free h0 2
                 have g3 := row_free h0 3
                 have d0 := row_cell h1 0
                 have d1 := row_cell h1 1
                 have d2 := row_cell h1 2
                 have d3 := row_cell h1 3
                 have f0 := row_free h1 0
                 have f1 := row_free h1 1
                 have f2 := row_free h1 2
                 have f3 := row_free h1 3
                 have hz : w.heap.size + 1 < w1.heap.size := (Array.getElem?_eq_some_iff.1 h1).1
                 have hz0 : w.heap.size < w1.heap.size := (Array.getElem?_eq_some_iff.1 h0).1
                 clear h0 h1)
    refine bodyPost_ret (v := .agg #[.int .u64 (Sets.wordOf (Sets.ins p c) 0 : Nat), .int .u64 (Sets.wordOf p 1 : Nat), .int .u64 (Sets.wordOf p 2 : Nat), .int .u64 (Sets.wordOf p 3 : Nat)]) (by simp [results, Tryd.results27, go_sem, d0, d1, d2, d3]) rfl ⟨rfl, ?_⟩
    exact (((((below2 hb).setCell (p := ⟨_, 0, none⟩) (Nat.le_refl _) _).setCell (p := ⟨_, 0, none⟩) (by simp) _).setCell (p := ⟨_, 1, none⟩) (by simp) _).setCell (p := ⟨_, 2, none⟩) (by simp) _).setCell (p := ⟨_, 3, none⟩) (by simp) _
  · rw [hoth 0 (by decide), hoth 2 (by decide), hoth 3 (by decide)]
    clear hoth
    go_enter Tryd.func27, Tryd.ntmps27
    go_wp2_with (go_at_call 14
                 refine (refHas_any p c _ hc).mono ?_
                 rw [hp]
                 rintro e w1 ⟨rfl, hb⟩
                 obtain ⟨h0, h1⟩ := two hb
                 have c0 := row_cell h0 0
                 have c1 := row_cell h0 1
                 have c2 := row_cell h0 2
                 have c3 := row_cell h0 3
                 have g0 := row_free h0 0
                 have g1 := row_free h0 1
                 have g2 := row_free h0 2
                 have g3 := row_free h0 3
                 have d0 := row_cell h1 0
                 have d1 := row_cell h1 1
                 have d2 := row_cell h1 2
                 have d3 := row_cell h1 3
                 have f0 := row_free h1 0
                 have f1 := row_free h1 1
                 have f2 := row_free h1 2
                 have f3 := row_free h1 3
                 have hz : w.heap.size + 1 < w1.heap.size := (Array.getElem?_eq_some_iff.1 h1).1
                 have hz0 : w.heap.size < w1.heap.size := (Array.getElem?_eq_some_iff.1 h0).1
                 clear h0 h1)
    refine bodyPost_ret (v := .agg #[.int .u64 (Sets.wordOf p 0 : Nat), .int .u64 (Sets.wordOf (Sets.ins p c) 1 : Nat), .int .u64 (Sets.wordOf p 2 : Nat), .int .u64 (Sets.wordOf p 3 : Nat)]) (by simp [results, Tryd.results27, go_sem, d0, d1, d2, d3]) rfl ⟨rfl, ?_⟩
    exact (((((below2 hb).setCell (p := ⟨_, 1, none⟩) (Nat.le_refl _) _).setCell (p := ⟨_, 0, none⟩) (by simp) _).setCell (p := ⟨_, 1, none⟩) (by simp) _).setCell (p := ⟨_, 2, none⟩) (by simp) _).setCell (p := ⟨_, 3, none⟩) (by simp) _
  · rw [hoth 0 (by decide), hoth 1 (by decide), hoth 3 (by decide)]
    clear hoth
    go_enter Tryd.func27, Tryd.ntmps27
    go_wp2_with (go_at_call 14
                 refine (refHas_any p c _ hc).mono ?_
                 rw [hp]
                 rintro e w1 ⟨rfl, hb⟩
                 obtain ⟨h0, h1⟩ := two hb
                 have c0 := row_cell h0 0
                 have c1 := row_cell h0 1
                 have c2 := row_cell h0 2
                 have c3 := row_cell h0 3
                 have g0 := row_free h0 0
                 have g1 := row_free h0 1
                 have g2 := row_free h0 2
                 have g3 := row_free h0 3
                 have d0 := row_cell h1 0
                 have d1 := row_cell h1 1
                 have d2 := row_cell h1 2
                 have d3 := row_cell h1 3
                 have f0 := row_free h1 0
                 have f1 := row_free h1 1
                 have f2 := row_free h1 2
                 have f3 := row_free h1 3
                 have hz : w.heap.size + 1 < w1.heap.size := (Array.getElem?_eq_some_iff.1 h1).1
                 have hz0 : w.heap.size < w1.heap.size := (Array.getElem?_eq_some_iff.1 h0).1
                 clear h0 h1)
    refine bodyPost_ret (v := .agg #[.int .u64 (Sets.wordOf p 0 : Nat), .int .u64 (Sets.wordOf p 1 : Nat), .int .u64 (Sets.wordOf (Sets.ins p c) 2 : Nat), .int .u64 (Sets.wordOf p 3 : Nat)]) (by simp [results, Tryd.results27, go_sem, d0, d1, d2, d3]) rfl ⟨rfl, ?_⟩
    exact (((((below2 hb).setCell (p := ⟨_, 2, none⟩) (Nat.le_refl _) _).setCell (p := ⟨_, 0, none⟩) (by simp) _).setCell (p := ⟨_, 1, none⟩) (by simp) _).setCell (p := ⟨_, 2, none⟩) (by simp) _).setCell (p := ⟨_, 3, none⟩) (by simp) _
  · rw [hoth 0 (by decide), hoth 1 (by decide), hoth 2 (by decide)]
    clear hoth
    go_enter Tryd.func27, Tryd.ntmps27
    go_wp2_with (go_at_call 14
                 refine (refHas_any p c _ hc).mono ?_
                 rw [hp]
                 rintro e w1 ⟨rfl, hb⟩
                 obtain ⟨h0, h1⟩ := two hb
                 have c0 := row_cell h0 0
                 have c1 := row_cell h0 1
                 have c2 := row_cell h0 2
                 have c3 := row_cell h0 3
                 have g0 := row_free h0 0
                 have g1 := row_free h0 1
                 have g2 := row_free h0 2
                 have g3 := row_free h0 3
                 have d0 := row_cell h1 0
                 have d1 := row_cell h1 1
                 have d2 := row_cell h1 2
                 have d3 := row_cell h1 3
                 have f0 := row_free h1 0
                 have f1 := row_free h1 1
                 have f2 := row_free h1 2
                 have f3 := row_free h1 3
                 have hz : w.heap.size + 1 < w1.heap.size := (Array.getElem?_eq_some_iff.1 h1).1
                 have hz0 : w.heap.size < w1.heap.size := (Array.getElem?_eq_some_iff.1 h0).1
                 clear h0 h1)
    refine bodyPost_ret (v := .agg #[.int .u64 (Sets.wordOf p 0 : Nat), .int .u64 (Sets.wordOf p 1 : Nat), .int .u64 (Sets.wordOf p 2 : Nat), .int .u64 (Sets.wordOf (Sets.ins p c) 3 : Nat)]) (by simp [results, Tryd.results27, go_sem, d0, d1, d2, d3]) rfl ⟨rfl, ?_⟩
    exact (((((below2 hb).setCell (p := ⟨_, 3, none⟩) (Nat.le_refl _) _).setCell (p := ⟨_, 0, none⟩) (by simp) _).setCell (p := ⟨_, 1, none⟩) (by simp) _).setCell (p := ⟨_, 2, none⟩) (by simp) _).setCell (p := ⟨_, 3, none⟩) (by simp) _
theorem with_any (p : Nat → Bool) (c : Nat) (w : World) (hc : c < 256) :
    Calls Tryd.prog 27 #[.agg #[.int .u64 (Sets.wordOf p 0 : Nat), .int .u64 (Sets.wordOf p 1 : Nat), .int .u64 (Sets.wordOf p 2 : Nat), .int .u64 (Sets.wordOf p 3 : Nat)], .int .u8 (c : Int)] w
      fun e w' => e = .returned (.agg #[.int .u64 (Sets.wordOf (Sets.ins p c) 0 : Nat), .int .u64 (Sets.wordOf (Sets.ins p c) 1 : Nat), .int .u64 (Sets.wordOf (Sets.ins p c) 2 : Nat), .int .u64 (Sets.wordOf (Sets.ins p c) 3 : Nat)]) ∧ Below w.heap.size w w' := by
  cases hp : p c
  · exact with_new p c w hc hp (c / 64) (by omega) rfl
  · have e : ∀ j, Sets.wordOf (Sets.ins p c) j = Sets.wordOf p j := fun j => Sets.wordOf_congr _ _ j fun i _ => by
      by_cases h : 64 * j + i = c
      · simp [Sets.ins, h, hp]
      · have : (64 * j + i == c) = false := by simpa using h
        simp [Sets.ins, this]
    rw [e, e, e, e]
    exact with_has p c w hc hp
end Go.Proofs.YtncdcdgmmbcbfaaDoor.CharWith
