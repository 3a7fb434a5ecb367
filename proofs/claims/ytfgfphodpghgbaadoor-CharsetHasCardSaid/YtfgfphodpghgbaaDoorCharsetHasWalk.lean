/- The walk of CharsetHas: it returns true; the library's table must hold its sixty-four numbers. -/
import Derived.Test.YtfgfphodpghgbaaDoorCharAwake
import Derived.Test.YtfgfphodpghgbaaDoorCharEq
import Derived.Test.YtfgfphodpghgbaaDoorQuietly
namespace Go.Proofs.YtfgfphodpghgbaaDoor.CharsetHasWalk
open Go Go.RowKit CharHas CharWith CharOf CharRefOf CharRange CharOps CharTz CharList CharRefList CharRefOps CharAwake CharEq Quietly

set_option maxHeartbeats 2000000 in
set_option maxRecDepth 100000 in
theorem walk (p : Nat → Bool) (z : Int) (w : World) (hz : (Lit.int .u8 z).wf = true) (hT : TzHeld w) :
    Calls Tryd.prog 9 #[.agg #[.int .u64 (Sets.wordOf p 0 : Nat), .int .u64 (Sets.wordOf p 1 : Nat), .int .u64 (Sets.wordOf p 2 : Nat), .int .u64 (Sets.wordOf p 3 : Nat)], .int .u8 z] w fun e w' => e = .returned (.bool true) ∧ Below w.heap.size w w' := by
  obtain ⟨c, rfl⟩ : ∃ c : Nat, z = (c : Int) := ⟨z.toNat, by have := bounds_u8 hz; omega⟩
  have hc : c < 256 := by have := bounds_u8 hz; omega
  clear hz
  have hv := CharList.Var.boxed w p
  have hT0 := hT.alloc (.cells #[.int .u64 (Sets.wordOf p 0 : Nat), .int .u64 (Sets.wordOf p 1 : Nat), .int .u64 (Sets.wordOf p 2 : Nat), .int .u64 (Sets.wordOf p 3 : Nat)] 44)
  have hb0 := (Below.refl w.heap.size w).alloc (Nat.le_refl _) (.cells #[.int .u64 (Sets.wordOf p 0 : Nat), .int .u64 (Sets.wordOf p 1 : Nat), .int .u64 (Sets.wordOf p 2 : Nat), .int .u64 (Sets.wordOf p 3 : Nat)] 44)
  go_enter Tryd.func9, Tryd.ntmps9
  go_wp2_with fail
  generalize w.alloc (.cells #[.int .u64 (Sets.wordOf p 0 : Nat), .int .u64 (Sets.wordOf p 1 : Nat), .int .u64 (Sets.wordOf p 2 : Nat), .int .u64 (Sets.wordOf p 3 : Nat)] 44) = w0 at *
  clear hT
  obtain ⟨X, F, hN, hBF, hw0, hF⟩ := worlds w0
  have hT : ∀ x, TzHeld (F x) := fun x => hT0.below (hBF x)
  have c0 : ∀ x, (F x).cell? ⟨w.heap.size, 0, none⟩ = some (.int .u64 (Sets.wordOf p 0 : Nat)) := fun x => (hv.below (hBF x) hv.lt).facts.1
  have c1 : ∀ x, (F x).cell? ⟨w.heap.size, 1, none⟩ = some (.int .u64 (Sets.wordOf p 1 : Nat)) := fun x => (hv.below (hBF x) hv.lt).facts.2.1
  have c2 : ∀ x, (F x).cell? ⟨w.heap.size, 2, none⟩ = some (.int .u64 (Sets.wordOf p 2 : Nat)) := fun x => (hv.below (hBF x) hv.lt).facts.2.2.1
  have c3 : ∀ x, (F x).cell? ⟨w.heap.size, 3, none⟩ = some (.int .u64 (Sets.wordOf p 3 : Nat)) := fun x => (hv.below (hBF x) hv.lt).facts.2.2.2.1
  refine region (by kernel_rfl) (by kernel_rfl) hw0 hF ?_
  repeat go_big_quiet_step (first
    | (go_at_call 30
       refine (has_any p c _ hc).mono ?_
       rintro e w1 ⟨rfl, hb1⟩
       exact ⟨rfl, hF _ _ hb1⟩)
    | (go_at_call 31
       refine (refHas_any p c _ hc).mono ?_
       rintro e w1 ⟨rfl, hb1⟩
       exact ⟨rfl, hF _ _ hb1⟩)
    | (go_at_call 32
       refine (list_any p _ (hT _)).mono ?_
       rintro e w1 ⟨rfl, hb1⟩
       exact ⟨rfl, hF _ _ hb1⟩)
    | (go_at_call 33
       refine (refList_any p _).mono ?_
       rintro e w1 ⟨rfl, hb1⟩
       exact ⟨rfl, hF _ _ hb1⟩)
    | (go_at_call 34
       refine (count_any p _).mono ?_
       rintro e w1 ⟨rfl, hb1⟩
       exact ⟨rfl, hF _ _ hb1⟩)
    | (go_at_call 35
       refine (refCount_any p _).mono ?_
       rintro e w1 ⟨rfl, hb1⟩
       exact ⟨rfl, hF _ _ hb1⟩)
    | (go_at_call 25
       refine (awake_any _ (hT _)).mono ?_
       rintro e w1 ⟨rfl, hb1⟩
       exact ⟨rfl, hF _ _ hb1⟩))
  refine wpQuiet_nil ?_
  rintro _ ⟨x, rfl⟩
  go_wp2
  go_ret
  exact ⟨rfl, hb0.trans ((hBF x).mono hb0.size)⟩
end Go.Proofs.YtfgfphodpghgbaaDoor.CharsetHasWalk
