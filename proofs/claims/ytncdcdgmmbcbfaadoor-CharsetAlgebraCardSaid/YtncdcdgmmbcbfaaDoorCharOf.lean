/- charset.Of and the reference's Of return the set of the bytes of a string. No condition. -/
import Derived.Test.YtncdcdgmmbcbfaaDoorCharWith
import Derived.RegionTactic
import Derived.BigRegion
import Derived.Deep.RegionWith
namespace Go.Proofs.YtncdcdgmmbcbfaaDoor.CharOf
open Go Go.RowKit CharHas CharWith

/-- a variable that holds a set -/
def Var (w : World) (g : Nat) (p : Nat → Bool) : Prop := w.heap[g]? = some (.cells #[.int .u64 (Sets.wordOf p 0 : Nat), .int .u64 (Sets.wordOf p 1 : Nat), .int .u64 (Sets.wordOf p 2 : Nat), .int .u64 (Sets.wordOf p 3 : Nat)] 26 (0, 0))
theorem Var.lt {w : World} {g : Nat} {p : Nat → Bool} (h : Var w g p) : g < w.heap.size := (Array.getElem?_eq_some_iff.1 h).1
theorem Var.facts {w : World} {g : Nat} {p : Nat → Bool} (h : Var w g p) :
    w.cell? ⟨g, 0, none⟩ = some (.int .u64 (Sets.wordOf p 0 : Nat)) ∧ w.cell? ⟨g, 1, none⟩ = some (.int .u64 (Sets.wordOf p 1 : Nat)) ∧ w.cell? ⟨g, 2, none⟩ = some (.int .u64 (Sets.wordOf p 2 : Nat)) ∧ w.cell? ⟨g, 3, none⟩ = some (.int .u64 (Sets.wordOf p 3 : Nat)) ∧
    w.frozen? ⟨g, 0, none⟩ = false ∧ w.frozen? ⟨g, 1, none⟩ = false ∧ w.frozen? ⟨g, 2, none⟩ = false ∧ w.frozen? ⟨g, 3, none⟩ = false :=
  ⟨row_cell h 0, row_cell h 1, row_cell h 2, row_cell h 3, row_free h 0, row_free h 1, row_free h 2, row_free h 3⟩
theorem Var.at_ {w : World} {g : Nat} {p : Nat → Bool} (h : Var w g p) (j : Nat) (hj : j < 4) : w.cell? ⟨g, j, none⟩ = some (.int .u64 (Sets.wordOf p j : Nat)) := by
  rw [row_cell h j]
  have : j = 0 ∨ j = 1 ∨ j = 2 ∨ j = 3 := by omega
  rcases this with rfl | rfl | rfl | rfl <;> rfl
theorem Var.free {w : World} {g : Nat} {p : Nat → Bool} (h : Var w g p) (j : Nat) : w.frozen? ⟨g, j, none⟩ = false := row_free h j
theorem Var.keep {w w' : World} {g : Nat} {p : Nat → Bool} (h : Var w g p) (hk : w'.heap[g]? = w.heap[g]?) : Var w' g p := hk.trans h
theorem Var.below {w w' : World} {g B : Nat} {p : Nat → Bool} (h : Var w g p) (hb : Below B w w') (hg : g < B) : Var w' g p := h.keep (hb.block g hg)
theorem Var.drew {w : World} {g : Nat} {p : Nat → Bool} (h : Var w g p) : Var w.drew g p := h
theorem Var.far {w : World} {g : Nat} {p : Nat → Bool} (h : Var w g p) {a : Addr} (ha : g ≠ a.block) (u : Value) : Var (w.setCell a u) g p := h.keep (Below.heap_setCell w a u g ha)
theorem heap_set {w : World} {g i : Nat} {cs : Array Value} {t : TypeId} {fz : Nat × Nat} (h : w.heap[g]? = some (.cells cs t fz)) (u : Value) : (w.setCell ⟨g, i, none⟩ u).heap[g]? = some (.cells (cs.setIfInBounds i u) t fz) := by
  simp [World.setCell, Array.getElem?_modify, h]
theorem Var.insert {w : World} {g : Nat} {p : Nat → Bool} (h : Var w g p) (c : Nat) (hc : c < 256) : Var (w.setCell ⟨g, c / 64, none⟩ (.int .u64 (Sets.wordOf (Sets.ins p c) (c / 64) : Nat))) g (Sets.ins p c) := by
  have h1 := heap_set (i := c / 64) h (.int .u64 (Sets.wordOf (Sets.ins p c) (c / 64) : Nat))
  unfold Var
  rw [h1]
  have hoth : ∀ j, j ≠ c / 64 → Sets.wordOf (Sets.ins p c) j = Sets.wordOf p j := fun j hj => Sets.word_ins_other p c j hj
  have : c / 64 = 0 ∨ c / 64 = 1 ∨ c / 64 = 2 ∨ c / 64 = 3 := by omega
  rcases this with e | e | e | e <;> rw [e] at hoth ⊢
  · rw [hoth 1 (by decide), hoth 2 (by decide), hoth 3 (by decide)]; rfl
  · rw [hoth 0 (by decide), hoth 2 (by decide), hoth 3 (by decide)]; rfl
  · rw [hoth 0 (by decide), hoth 1 (by decide), hoth 3 (by decide)]; rfl
  · rw [hoth 0 (by decide), hoth 1 (by decide), hoth 2 (by decide)]; rfl
theorem Var.store {w : World} {g : Nat} {p : Nat → Bool} (h : Var w g p) (q : Nat → Bool) :
    Var ((((w.setCell ⟨g, 0, none⟩ (.int .u64 (Sets.wordOf q 0 : Nat))).setCell ⟨g, 1, none⟩ (.int .u64 (Sets.wordOf q 1 : Nat))).setCell ⟨g, 2, none⟩ (.int .u64 (Sets.wordOf q 2 : Nat))).setCell ⟨g, 3, none⟩ (.int .u64 (Sets.wordOf q 3 : Nat))) g q :=
  heap_set (i := 3) (heap_set (i := 2) (heap_set (i := 1) (heap_set (i := 0) h _) _) _) _
theorem empty (j : Nat) : Sets.wordOf (fun _ => false) j = 0 := by
  apply Nat.eq_of_testBit_eq
  intro i
  rw [Sets.testBit_wordOf]; simp
theorem Var.fresh (w : World) : Var (w.alloc (.cells #[.int .u64 0, .int .u64 0, .int .u64 0, .int .u64 0] 26)) w.heap.size (fun _ => false) := by
  unfold Var
  rw [empty, empty, empty, empty]
  exact heap_alloc_new w _
theorem Var.two_fresh (w : World) : Var ((w.alloc (.cells #[.int .u64 0, .int .u64 0, .int .u64 0, .int .u64 0] 26)).alloc (.cells #[.int .u64 0, .int .u64 0, .int .u64 0, .int .u64 0] 26)) w.heap.size (fun _ => false) ∧
    Var ((w.alloc (.cells #[.int .u64 0, .int .u64 0, .int .u64 0, .int .u64 0] 26)).alloc (.cells #[.int .u64 0, .int .u64 0, .int .u64 0, .int .u64 0] 26)) (w.heap.size + 1) (fun _ => false) := by
  refine ⟨(Var.fresh w).keep (Below.heap_alloc _ _ _ (by simp)), ?_⟩
  have := Var.fresh (w.alloc (.cells #[.int .u64 0, .int .u64 0, .int .u64 0, .int .u64 0] 26))
  rwa [show (w.alloc (.cells #[.int .u64 0, .int .u64 0, .int .u64 0, .int .u64 0] 26)).heap.size = w.heap.size + 1 from by simp] at this
theorem or_bit (p : Nat → Bool) (c : Nat) : bits .or .u64 (Sets.wordOf p (c / 64) : Int) (IntKind.u64.wrap (2 ^ (c % 64))) = (Sets.wordOf (Sets.ins p c) (c / 64) : Int) := by
  have h : 2 ^ (c % 64) < 18446744073709551616 := Nat.pow_lt_pow_right (a := 2) (m := c % 64) (n := 64) (by decide) (by omega)
  rw [shl_bit _ (by omega), u64_or_nat _ _ (Sets.wordOf_lt p _) h, Sets.word_ins_or]
/-- the bytes of a string -/
def memP (l : List UInt8) : Nat → Bool := fun c => l.any fun b => b.toNat == c
theorem memP_snoc (l : List UInt8) (b : UInt8) : memP (l ++ [b]) = Sets.ins (memP l) b.toNat := by
  funext c
  simp [memP, Sets.ins, List.any_append]
  congr 1
  rw [Bool.eq_iff_iff, beq_iff_eq, beq_iff_eq]
  exact eq_comm

set_option maxHeartbeats 1000000 in
theorem of_any (s : ByteArray) (w : World) (hs : s.size ≤ maxLen) :
    Calls Tryd.prog 9 #[.string s] w
      fun e w' => e = .returned (.agg #[.int .u64 (Sets.wordOf (memP s.data.toList) 0 : Nat), .int .u64 (Sets.wordOf (memP s.data.toList) 1 : Nat), .int .u64 (Sets.wordOf (memP s.data.toList) 2 : Nat), .int .u64 (Sets.wordOf (memP s.data.toList) 3 : Nat)]) ∧ Below w.heap.size w w' := by
  unfold maxLen at hs
  go_enter Tryd.func9, Tryd.ntmps9
  go_wp2
  go_loopw [7] (fun i wr => ∃ k : Nat, k ≤ s.size ∧ i = .int .i64 k ∧ Var wr w.heap.size (fun _ => false) ∧ Var wr (w.heap.size + 1) (memP (s.data.toList.take k)) ∧ Below w.heap.size w wr) (fun i _ => s.size - (intOf i).toNat)
  case atStart => exact ⟨0, Nat.zero_le _, rfl, (Var.two_fresh w).1, (Var.two_fresh w).2, ((Below.refl _ _).alloc (Nat.le_refl _) _).alloc (by simp) _⟩
  case round =>
    obtain ⟨k, hk, rfl, hv, hu, hb⟩ := hrel
    by_cases hlt : k < s.size
    · have hst : Hid (memP (s.data.toList.take (k + 1)) = Sets.ins (memP (s.data.toList.take k)) (Base.byteAt s k)) := by
        unfold Hid
        rw [List.take_succ_eq_append_getElem (by simpa using hlt), memP_snoc]
        congr 1
        simp [Base.byteAt, List.getD_eq_getElem?_getD, hlt]
      have i0 : ∀ W, (Instr.index 9 (.string s) (.int .i64 (k : Int))).run Tryd.prog W = .ok (.int .u8 (Base.byteAt s k)) W := Base.run_byte _ Tryd.underlying9 s .i64 k (by omega) (by omega)
      have hc := Base.byteAt_lt s k
      generalize Base.byteAt s k = c at *
      generalize memP (s.data.toList.take k) = p at *
      have hc4 : c / 64 < 4 := by omega
      have u1 := hu.at_ (c / 64) hc4
      have u2 := hu.free (c / 64)
      have ho := or_bit p c
      have hlt1 := hu.lt
      have HU := Lib.hid (hu.insert c hc)
      have HV := Lib.hid (hv.far (a := ⟨w.heap.size + 1, c / 64, none⟩) (by simp) (.int .u64 (Sets.wordOf (Sets.ins p c) (c / 64) : Nat)))
      clear hu hv
      go_wp2
      go_region
      go_wp2
      go_roundw
      case rel => exact ⟨k + 1, by omega, by go_num, HV.out, by rw [hst.out]; exact HU.out, (hb.setCell (p := ⟨w.heap.size + 1, c / 64, none⟩) (by simp) _).drew⟩
      case measure => simp [intOf]; omega
    · obtain rfl : k = s.size := by omega
      have htk : Hid (s.data.toList.take s.size = s.data.toList) := List.take_of_length_le (Nat.le_refl _)
      rw [htk.out] at hu
      obtain ⟨c0, c1, c2, c3, -⟩ := hu.facts
      obtain ⟨d0, d1, d2, d3, f0, f1, f2, f3⟩ := hv.facts
      have hl1 := hu.lt
      have hl0 := hv.lt
      clear hu hv
      go_wp2
      refine bodyPost_ret (v := .agg #[.int .u64 (Sets.wordOf (memP s.data.toList) 0 : Nat), .int .u64 (Sets.wordOf (memP s.data.toList) 1 : Nat), .int .u64 (Sets.wordOf (memP s.data.toList) 2 : Nat), .int .u64 (Sets.wordOf (memP s.data.toList) 3 : Nat)]) ?_ rfl ⟨rfl, ?_⟩
      · clear hb htk
        simp [results, Tryd.results9, go_sem, d0, d1, d2, d3]
      exact (((hb.setCell (p := ⟨_, 0, none⟩) (Nat.le_refl _) _).setCell (p := ⟨_, 1, none⟩) (Nat.le_refl _) _).setCell (p := ⟨_, 2, none⟩) (Nat.le_refl _) _).setCell (p := ⟨_, 3, none⟩) (Nat.le_refl _) _
end Go.Proofs.YtncdcdgmmbcbfaaDoor.CharOf
