/- The walk of CharsetCombines: it returns true; the library's table must hold its sixty-four numbers. -/
import Derived.Test.YtfgfphodpghgbaaDoorCharAwake
import Derived.Test.YtfgfphodpghgbaaDoorCharEq
import Derived.Test.YtfgfphodpghgbaaDoorQuietly
namespace Go.Proofs.YtfgfphodpghgbaaDoor.CharsetCombinesWalk
open Go Go.RowKit CharHas CharWith CharOf CharRefOf CharRange CharOps CharTz CharList CharRefList CharRefOps CharAwake CharEq Quietly

set_option maxHeartbeats 4000000 in
set_option maxRecDepth 100000 in
theorem walk (p q : Nat → Bool) (w : World) (hT : TzHeld w) :
    Calls Tryd.prog 14 #[.agg #[.int .u64 (Sets.wordOf p 0 : Nat), .int .u64 (Sets.wordOf p 1 : Nat), .int .u64 (Sets.wordOf p 2 : Nat), .int .u64 (Sets.wordOf p 3 : Nat)], .agg #[.int .u64 (Sets.wordOf q 0 : Nat), .int .u64 (Sets.wordOf q 1 : Nat), .int .u64 (Sets.wordOf q 2 : Nat), .int .u64 (Sets.wordOf q 3 : Nat)]] w fun e w' => e = .returned (.bool true) ∧ Below w.heap.size w w' := by
  have hv : Var ((w.alloc (.cells #[.int .u64 (Sets.wordOf p 0 : Nat), .int .u64 (Sets.wordOf p 1 : Nat), .int .u64 (Sets.wordOf p 2 : Nat), .int .u64 (Sets.wordOf p 3 : Nat)] 44)).alloc (.cells #[.int .u64 (Sets.wordOf q 0 : Nat), .int .u64 (Sets.wordOf q 1 : Nat), .int .u64 (Sets.wordOf q 2 : Nat), .int .u64 (Sets.wordOf q 3 : Nat)] 44)) w.heap.size p := (CharList.Var.boxed w p).keep (Below.heap_alloc _ _ _ (by simp))
  have hq := Var.boxed1 w p q
  have hT0 := (hT.alloc (.cells #[.int .u64 (Sets.wordOf p 0 : Nat), .int .u64 (Sets.wordOf p 1 : Nat), .int .u64 (Sets.wordOf p 2 : Nat), .int .u64 (Sets.wordOf p 3 : Nat)] 44)).alloc (.cells #[.int .u64 (Sets.wordOf q 0 : Nat), .int .u64 (Sets.wordOf q 1 : Nat), .int .u64 (Sets.wordOf q 2 : Nat), .int .u64 (Sets.wordOf q 3 : Nat)] 44)
  have hb0 := ((Below.refl w.heap.size w).alloc (Nat.le_refl _) (.cells #[.int .u64 (Sets.wordOf p 0 : Nat), .int .u64 (Sets.wordOf p 1 : Nat), .int .u64 (Sets.wordOf p 2 : Nat), .int .u64 (Sets.wordOf p 3 : Nat)] 44)).alloc (by simp) (.cells #[.int .u64 (Sets.wordOf q 0 : Nat), .int .u64 (Sets.wordOf q 1 : Nat), .int .u64 (Sets.wordOf q 2 : Nat), .int .u64 (Sets.wordOf q 3 : Nat)] 44)
  have heq := eq_same
  have hle : w.heap.size + 1 < ((w.alloc (.cells #[.int .u64 (Sets.wordOf p 0 : Nat), .int .u64 (Sets.wordOf p 1 : Nat), .int .u64 (Sets.wordOf p 2 : Nat), .int .u64 (Sets.wordOf p 3 : Nat)] 44)).alloc (.cells #[.int .u64 (Sets.wordOf q 0 : Nat), .int .u64 (Sets.wordOf q 1 : Nat), .int .u64 (Sets.wordOf q 2 : Nat), .int .u64 (Sets.wordOf q 3 : Nat)] 44)).heap.size := hq.lt
  go_enter Tryd.func14, Tryd.ntmps14
  go_wp2_with fail
  generalize ((w.alloc (.cells #[.int .u64 (Sets.wordOf p 0 : Nat), .int .u64 (Sets.wordOf p 1 : Nat), .int .u64 (Sets.wordOf p 2 : Nat), .int .u64 (Sets.wordOf p 3 : Nat)] 44)).alloc (.cells #[.int .u64 (Sets.wordOf q 0 : Nat), .int .u64 (Sets.wordOf q 1 : Nat), .int .u64 (Sets.wordOf q 2 : Nat), .int .u64 (Sets.wordOf q 3 : Nat)] 44)) = w0 at *
  clear hT
  obtain ⟨X, F, hN, hBF, hw0, hF⟩ := worlds w0
  have hT : ∀ x, TzHeld (F x) := fun x => hT0.below (hBF x)
  have c0 : ∀ x, (F x).cell? ⟨w.heap.size, 0, none⟩ = some (.int .u64 (Sets.wordOf p 0 : Nat)) := fun x => (hv.below (hBF x) hv.lt).facts.1
  have c1 : ∀ x, (F x).cell? ⟨w.heap.size, 1, none⟩ = some (.int .u64 (Sets.wordOf p 1 : Nat)) := fun x => (hv.below (hBF x) hv.lt).facts.2.1
  have c2 : ∀ x, (F x).cell? ⟨w.heap.size, 2, none⟩ = some (.int .u64 (Sets.wordOf p 2 : Nat)) := fun x => (hv.below (hBF x) hv.lt).facts.2.2.1
  have c3 : ∀ x, (F x).cell? ⟨w.heap.size, 3, none⟩ = some (.int .u64 (Sets.wordOf p 3 : Nat)) := fun x => (hv.below (hBF x) hv.lt).facts.2.2.2.1
  have d0 : ∀ x, (F x).cell? ⟨w.heap.size + 1, 0, none⟩ = some (.int .u64 (Sets.wordOf q 0 : Nat)) := fun x => (hq.below (hBF x) hq.lt).facts.1
  have d1 : ∀ x, (F x).cell? ⟨w.heap.size + 1, 1, none⟩ = some (.int .u64 (Sets.wordOf q 1 : Nat)) := fun x => (hq.below (hBF x) hq.lt).facts.2.1
  have d2 : ∀ x, (F x).cell? ⟨w.heap.size + 1, 2, none⟩ = some (.int .u64 (Sets.wordOf q 2 : Nat)) := fun x => (hq.below (hBF x) hq.lt).facts.2.2.1
  have d3 : ∀ x, (F x).cell? ⟨w.heap.size + 1, 3, none⟩ = some (.int .u64 (Sets.wordOf q 3 : Nat)) := fun x => (hq.below (hBF x) hq.lt).facts.2.2.2.1
  refine region (by kernel_rfl) (by kernel_rfl) hw0 hF ?_
  repeat go_big_quiet_step (first
    | (go_at_call 39
       refine (union_any p q _).mono ?_
       rintro e w1 ⟨rfl, hb1⟩
       exact ⟨rfl, hF _ _ hb1⟩)
    | (go_at_call 41
       refine (refUnion_any p q _).mono ?_
       rintro e w1 ⟨rfl, hb1⟩
       exact ⟨rfl, hF _ _ hb1⟩)
    | (go_at_call 40
       refine (intersect_any p q _).mono ?_
       rintro e w1 ⟨rfl, hb1⟩
       exact ⟨rfl, hF _ _ hb1⟩)
    | (go_at_call 42
       refine (refIntersect_any p q _).mono ?_
       rintro e w1 ⟨rfl, hb1⟩
       exact ⟨rfl, hF _ _ hb1⟩)
    | (go_at_call 43
       refine (minus_any p q _).mono ?_
       rintro e w1 ⟨rfl, hb1⟩
       exact ⟨rfl, hF _ _ hb1⟩)
    | (go_at_call 44
       refine (refMinus_any p q _).mono ?_
       rintro e w1 ⟨rfl, hb1⟩
       exact ⟨rfl, hF _ _ hb1⟩)
    | (go_at_call 45
       refine (complement_any p _).mono ?_
       rintro e w1 ⟨rfl, hb1⟩
       exact ⟨rfl, hF _ _ hb1⟩)
    | (go_at_call 46
       refine (refComplement_any p _).mono ?_
       rintro e w1 ⟨rfl, hb1⟩
       exact ⟨rfl, hF _ _ hb1⟩)
    | (go_at_call 25
       refine (awake_any _ (hT _)).mono ?_
       rintro e w1 ⟨rfl, hb1⟩
       exact ⟨rfl, hF _ _ hb1⟩))
  refine wpQuiet_nil ?_
  rintro _ ⟨x, rfl⟩
  go_wp2
  go_ret
  exact ⟨rfl, hb0.trans ((hBF x).mono hb0.size)⟩
end Go.Proofs.YtfgfphodpghgbaaDoor.CharsetCombinesWalk
