/- The walk of CharsetAlgebra: it returns true; the library's table must hold its sixty-four numbers. -/
import Derived.Test.YtncdcdgmmbcbfaaDoorCharAwake
import Derived.Test.YtncdcdgmmbcbfaaDoorCharEq
import Derived.Test.YtncdcdgmmbcbfaaDoorQuietly
namespace Go.Proofs.YtncdcdgmmbcbfaaDoor.CharsetAlgebraWalk
open Go Go.RowKit CharHas CharWith CharOf CharRefOf CharRange CharOps CharTz CharList CharRefList CharRefOps CharAwake CharEq Quietly

theorem uni (a b x : Nat → Bool) (h : ∀ c, x c = (a c || b c)) (w : World) :
    Calls Tryd.prog 19 #[.agg #[.int .u64 (Sets.wordOf a 0 : Nat), .int .u64 (Sets.wordOf a 1 : Nat), .int .u64 (Sets.wordOf a 2 : Nat), .int .u64 (Sets.wordOf a 3 : Nat)], .agg #[.int .u64 (Sets.wordOf b 0 : Nat), .int .u64 (Sets.wordOf b 1 : Nat), .int .u64 (Sets.wordOf b 2 : Nat), .int .u64 (Sets.wordOf b 3 : Nat)]] w fun e w' => e = .returned (.agg #[.int .u64 (Sets.wordOf x 0 : Nat), .int .u64 (Sets.wordOf x 1 : Nat), .int .u64 (Sets.wordOf x 2 : Nat), .int .u64 (Sets.wordOf x 3 : Nat)]) ∧ Below w.heap.size w w' := by
  obtain rfl : x = fun c => a c || b c := funext h
  exact union_any a b w
theorem int (a b x : Nat → Bool) (h : ∀ c, x c = (a c && b c)) (w : World) :
    Calls Tryd.prog 20 #[.agg #[.int .u64 (Sets.wordOf a 0 : Nat), .int .u64 (Sets.wordOf a 1 : Nat), .int .u64 (Sets.wordOf a 2 : Nat), .int .u64 (Sets.wordOf a 3 : Nat)], .agg #[.int .u64 (Sets.wordOf b 0 : Nat), .int .u64 (Sets.wordOf b 1 : Nat), .int .u64 (Sets.wordOf b 2 : Nat), .int .u64 (Sets.wordOf b 3 : Nat)]] w fun e w' => e = .returned (.agg #[.int .u64 (Sets.wordOf x 0 : Nat), .int .u64 (Sets.wordOf x 1 : Nat), .int .u64 (Sets.wordOf x 2 : Nat), .int .u64 (Sets.wordOf x 3 : Nat)]) ∧ Below w.heap.size w w' := by
  obtain rfl : x = fun c => a c && b c := funext h
  exact intersect_any a b w
theorem min (a b x : Nat → Bool) (h : ∀ c, x c = (a c && !b c)) (w : World) :
    Calls Tryd.prog 23 #[.agg #[.int .u64 (Sets.wordOf a 0 : Nat), .int .u64 (Sets.wordOf a 1 : Nat), .int .u64 (Sets.wordOf a 2 : Nat), .int .u64 (Sets.wordOf a 3 : Nat)], .agg #[.int .u64 (Sets.wordOf b 0 : Nat), .int .u64 (Sets.wordOf b 1 : Nat), .int .u64 (Sets.wordOf b 2 : Nat), .int .u64 (Sets.wordOf b 3 : Nat)]] w fun e w' => e = .returned (.agg #[.int .u64 (Sets.wordOf x 0 : Nat), .int .u64 (Sets.wordOf x 1 : Nat), .int .u64 (Sets.wordOf x 2 : Nat), .int .u64 (Sets.wordOf x 3 : Nat)]) ∧ Below w.heap.size w w' := by
  obtain rfl : x = fun c => a c && !b c := funext h
  exact minus_any a b w
theorem com (a x : Nat → Bool) (h : ∀ c, x c = (!a c)) (w : World) :
    Calls Tryd.prog 25 #[.agg #[.int .u64 (Sets.wordOf a 0 : Nat), .int .u64 (Sets.wordOf a 1 : Nat), .int .u64 (Sets.wordOf a 2 : Nat), .int .u64 (Sets.wordOf a 3 : Nat)]] w fun e w' => e = .returned (.agg #[.int .u64 (Sets.wordOf x 0 : Nat), .int .u64 (Sets.wordOf x 1 : Nat), .int .u64 (Sets.wordOf x 2 : Nat), .int .u64 (Sets.wordOf x 3 : Nat)]) ∧ Below w.heap.size w w' := by
  obtain rfl : x = fun c => !a c := funext h
  exact complement_any a w
theorem int_no (a b : Nat → Bool) (h : ∀ c, false = (a c && b c)) (w : World) :
    Calls Tryd.prog 20 #[.agg #[.int .u64 (Sets.wordOf a 0 : Nat), .int .u64 (Sets.wordOf a 1 : Nat), .int .u64 (Sets.wordOf a 2 : Nat), .int .u64 (Sets.wordOf a 3 : Nat)], .agg #[.int .u64 (Sets.wordOf b 0 : Nat), .int .u64 (Sets.wordOf b 1 : Nat), .int .u64 (Sets.wordOf b 2 : Nat), .int .u64 (Sets.wordOf b 3 : Nat)]] w fun e w' => e = .returned (.agg #[.int .u64 0, .int .u64 0, .int .u64 0, .int .u64 0]) ∧ Below w.heap.size w w' := by
  have k := intersect_any a b w
  rw [show (fun c => a c && b c) = fun _ => false from funext fun c => (h c).symm, empty, empty, empty, empty] at k
  exact k
theorem count_al (x : Nat → Bool) (h : ∀ c, x c = true) (w : World) : Calls Tryd.prog 17 #[.agg #[.int .u64 (Sets.wordOf x 0 : Nat), .int .u64 (Sets.wordOf x 1 : Nat), .int .u64 (Sets.wordOf x 2 : Nat), .int .u64 (Sets.wordOf x 3 : Nat)]] w fun e w' => e = .returned (.int .i64 256) ∧ Below w.heap.size w w' := by
  obtain rfl : x = fun _ => true := funext h
  exact count_all w
set_option maxHeartbeats 8000000 in
set_option maxRecDepth 100000 in
theorem walk_of (p q r pq iq uv qr iv jr y1 ir y2 pr cm cp cq al m : Nat → Bool) (w : World) (hT : TzHeld w) (h0 : Hid (∀ c, pq c = (p c || q c))) (h1 : Hid (∀ c, pq c = (q c || p c))) (h2 : Hid (∀ c, iq c = (p c && q c))) (h3 : Hid (∀ c, iq c = (q c && p c))) (h4 : Hid (∀ c, uv c = (pq c || r c))) (h5 : Hid (∀ c, qr c = (q c || r c))) (h6 : Hid (∀ c, uv c = (p c || qr c))) (h7 : Hid (∀ c, iv c = (iq c && r c))) (h8 : Hid (∀ c, jr c = (q c && r c))) (h9 : Hid (∀ c, iv c = (p c && jr c))) (h10 : Hid (∀ c, y1 c = (p c && qr c))) (h11 : Hid (∀ c, ir c = (p c && r c))) (h12 : Hid (∀ c, y1 c = (iq c || ir c))) (h13 : Hid (∀ c, y2 c = (p c || jr c))) (h14 : Hid (∀ c, pr c = (p c || r c))) (h15 : Hid (∀ c, y2 c = (pq c && pr c))) (h16 : Hid (∀ c, cm c = (!pq c))) (h17 : Hid (∀ c, cp c = (!p c))) (h18 : Hid (∀ c, cq c = (!q c))) (h19 : Hid (∀ c, cm c = (cp c && cq c))) (h20 : Hid (∀ c, p c = (!cp c))) (h21 : Hid (∀ c, false = (p c && cp c))) (h22 : Hid (∀ c, al c = (p c || cp c))) (h23 : Hid (∀ c, m c = (p c && !q c))) (h24 : Hid (∀ c, m c = (p c && cq c))) (HC : Hid (∀ w, Calls Tryd.prog 17 #[.agg #[.int .u64 (Sets.wordOf al 0 : Nat), .int .u64 (Sets.wordOf al 1 : Nat), .int .u64 (Sets.wordOf al 2 : Nat), .int .u64 (Sets.wordOf al 3 : Nat)]] w fun e w' => e = .returned (.int .i64 256) ∧ Below w.heap.size w w')) :
    Calls Tryd.prog 7 #[.agg #[.int .u64 (Sets.wordOf p 0 : Nat), .int .u64 (Sets.wordOf p 1 : Nat), .int .u64 (Sets.wordOf p 2 : Nat), .int .u64 (Sets.wordOf p 3 : Nat)], .agg #[.int .u64 (Sets.wordOf q 0 : Nat), .int .u64 (Sets.wordOf q 1 : Nat), .int .u64 (Sets.wordOf q 2 : Nat), .int .u64 (Sets.wordOf q 3 : Nat)], .agg #[.int .u64 (Sets.wordOf r 0 : Nat), .int .u64 (Sets.wordOf r 1 : Nat), .int .u64 (Sets.wordOf r 2 : Nat), .int .u64 (Sets.wordOf r 3 : Nat)]] w fun e w' => e = .returned (.bool true) ∧ Below w.heap.size w w' := by
  have hp1 : Var ((w.alloc (.cells #[.int .u64 (Sets.wordOf p 0 : Nat), .int .u64 (Sets.wordOf p 1 : Nat), .int .u64 (Sets.wordOf p 2 : Nat), .int .u64 (Sets.wordOf p 3 : Nat)] 26)).alloc (.cells #[.int .u64 (Sets.wordOf q 0 : Nat), .int .u64 (Sets.wordOf q 1 : Nat), .int .u64 (Sets.wordOf q 2 : Nat), .int .u64 (Sets.wordOf q 3 : Nat)] 26)) w.heap.size p := (CharList.Var.boxed w p).keep (Below.heap_alloc _ _ _ (by simp))
  have hp : Var (((w.alloc (.cells #[.int .u64 (Sets.wordOf p 0 : Nat), .int .u64 (Sets.wordOf p 1 : Nat), .int .u64 (Sets.wordOf p 2 : Nat), .int .u64 (Sets.wordOf p 3 : Nat)] 26)).alloc (.cells #[.int .u64 (Sets.wordOf q 0 : Nat), .int .u64 (Sets.wordOf q 1 : Nat), .int .u64 (Sets.wordOf q 2 : Nat), .int .u64 (Sets.wordOf q 3 : Nat)] 26)).alloc (.cells #[.int .u64 (Sets.wordOf r 0 : Nat), .int .u64 (Sets.wordOf r 1 : Nat), .int .u64 (Sets.wordOf r 2 : Nat), .int .u64 (Sets.wordOf r 3 : Nat)] 26)) w.heap.size p := hp1.keep (Below.heap_alloc _ _ _ (by simp <;> omega))
  have hq : Var (((w.alloc (.cells #[.int .u64 (Sets.wordOf p 0 : Nat), .int .u64 (Sets.wordOf p 1 : Nat), .int .u64 (Sets.wordOf p 2 : Nat), .int .u64 (Sets.wordOf p 3 : Nat)] 26)).alloc (.cells #[.int .u64 (Sets.wordOf q 0 : Nat), .int .u64 (Sets.wordOf q 1 : Nat), .int .u64 (Sets.wordOf q 2 : Nat), .int .u64 (Sets.wordOf q 3 : Nat)] 26)).alloc (.cells #[.int .u64 (Sets.wordOf r 0 : Nat), .int .u64 (Sets.wordOf r 1 : Nat), .int .u64 (Sets.wordOf r 2 : Nat), .int .u64 (Sets.wordOf r 3 : Nat)] 26)) (w.heap.size + 1) q := (Var.boxed1 w p q).keep (Below.heap_alloc _ _ _ (by simp <;> omega))
  have hr : Var (((w.alloc (.cells #[.int .u64 (Sets.wordOf p 0 : Nat), .int .u64 (Sets.wordOf p 1 : Nat), .int .u64 (Sets.wordOf p 2 : Nat), .int .u64 (Sets.wordOf p 3 : Nat)] 26)).alloc (.cells #[.int .u64 (Sets.wordOf q 0 : Nat), .int .u64 (Sets.wordOf q 1 : Nat), .int .u64 (Sets.wordOf q 2 : Nat), .int .u64 (Sets.wordOf q 3 : Nat)] 26)).alloc (.cells #[.int .u64 (Sets.wordOf r 0 : Nat), .int .u64 (Sets.wordOf r 1 : Nat), .int .u64 (Sets.wordOf r 2 : Nat), .int .u64 (Sets.wordOf r 3 : Nat)] 26)) (w.heap.size + 2) r := by
    have := Var.boxed1 (w.alloc (.cells #[.int .u64 (Sets.wordOf p 0 : Nat), .int .u64 (Sets.wordOf p 1 : Nat), .int .u64 (Sets.wordOf p 2 : Nat), .int .u64 (Sets.wordOf p 3 : Nat)] 26)) q r
    rwa [show (w.alloc (.cells #[.int .u64 (Sets.wordOf p 0 : Nat), .int .u64 (Sets.wordOf p 1 : Nat), .int .u64 (Sets.wordOf p 2 : Nat), .int .u64 (Sets.wordOf p 3 : Nat)] 26)).heap.size + 1 = w.heap.size + 2 from by simp] at this
  have hT0 := ((hT.alloc (.cells #[.int .u64 (Sets.wordOf p 0 : Nat), .int .u64 (Sets.wordOf p 1 : Nat), .int .u64 (Sets.wordOf p 2 : Nat), .int .u64 (Sets.wordOf p 3 : Nat)] 26)).alloc (.cells #[.int .u64 (Sets.wordOf q 0 : Nat), .int .u64 (Sets.wordOf q 1 : Nat), .int .u64 (Sets.wordOf q 2 : Nat), .int .u64 (Sets.wordOf q 3 : Nat)] 26)).alloc (.cells #[.int .u64 (Sets.wordOf r 0 : Nat), .int .u64 (Sets.wordOf r 1 : Nat), .int .u64 (Sets.wordOf r 2 : Nat), .int .u64 (Sets.wordOf r 3 : Nat)] 26)
  have hb0 := (((Below.refl w.heap.size w).alloc (Nat.le_refl _) (.cells #[.int .u64 (Sets.wordOf p 0 : Nat), .int .u64 (Sets.wordOf p 1 : Nat), .int .u64 (Sets.wordOf p 2 : Nat), .int .u64 (Sets.wordOf p 3 : Nat)] 26)).alloc (by simp) (.cells #[.int .u64 (Sets.wordOf q 0 : Nat), .int .u64 (Sets.wordOf q 1 : Nat), .int .u64 (Sets.wordOf q 2 : Nat), .int .u64 (Sets.wordOf q 3 : Nat)] 26)).alloc (by simp <;> omega) (.cells #[.int .u64 (Sets.wordOf r 0 : Nat), .int .u64 (Sets.wordOf r 1 : Nat), .int .u64 (Sets.wordOf r 2 : Nat), .int .u64 (Sets.wordOf r 3 : Nat)] 26)
  have heq := eq_same
  clear hp1
  go_enter Tryd.func7, Tryd.ntmps7
  go_wp2_with fail
  generalize (((w.alloc (.cells #[.int .u64 (Sets.wordOf p 0 : Nat), .int .u64 (Sets.wordOf p 1 : Nat), .int .u64 (Sets.wordOf p 2 : Nat), .int .u64 (Sets.wordOf p 3 : Nat)] 26)).alloc (.cells #[.int .u64 (Sets.wordOf q 0 : Nat), .int .u64 (Sets.wordOf q 1 : Nat), .int .u64 (Sets.wordOf q 2 : Nat), .int .u64 (Sets.wordOf q 3 : Nat)] 26)).alloc (.cells #[.int .u64 (Sets.wordOf r 0 : Nat), .int .u64 (Sets.wordOf r 1 : Nat), .int .u64 (Sets.wordOf r 2 : Nat), .int .u64 (Sets.wordOf r 3 : Nat)] 26)) = w0 at *
  clear hT
  obtain ⟨X, F, hN, hBF, hw0, hF⟩ := worlds w0
  have hT : ∀ x, TzHeld (F x) := fun x => hT0.below (hBF x)
  have b0 : ∀ x, (F x).cell? ⟨w.heap.size, 0, none⟩ = some (.int .u64 (Sets.wordOf p 0 : Nat)) := fun x => (hp.below (hBF x) hp.lt).facts.1
  have b1 : ∀ x, (F x).cell? ⟨w.heap.size, 1, none⟩ = some (.int .u64 (Sets.wordOf p 1 : Nat)) := fun x => (hp.below (hBF x) hp.lt).facts.2.1
  have b2 : ∀ x, (F x).cell? ⟨w.heap.size, 2, none⟩ = some (.int .u64 (Sets.wordOf p 2 : Nat)) := fun x => (hp.below (hBF x) hp.lt).facts.2.2.1
  have b3 : ∀ x, (F x).cell? ⟨w.heap.size, 3, none⟩ = some (.int .u64 (Sets.wordOf p 3 : Nat)) := fun x => (hp.below (hBF x) hp.lt).facts.2.2.2.1
  have c0 : ∀ x, (F x).cell? ⟨w.heap.size + 1, 0, none⟩ = some (.int .u64 (Sets.wordOf q 0 : Nat)) := fun x => (hq.below (hBF x) hq.lt).facts.1
  have c1 : ∀ x, (F x).cell? ⟨w.heap.size + 1, 1, none⟩ = some (.int .u64 (Sets.wordOf q 1 : Nat)) := fun x => (hq.below (hBF x) hq.lt).facts.2.1
  have c2 : ∀ x, (F x).cell? ⟨w.heap.size + 1, 2, none⟩ = some (.int .u64 (Sets.wordOf q 2 : Nat)) := fun x => (hq.below (hBF x) hq.lt).facts.2.2.1
  have c3 : ∀ x, (F x).cell? ⟨w.heap.size + 1, 3, none⟩ = some (.int .u64 (Sets.wordOf q 3 : Nat)) := fun x => (hq.below (hBF x) hq.lt).facts.2.2.2.1
  have d0 : ∀ x, (F x).cell? ⟨w.heap.size + 2, 0, none⟩ = some (.int .u64 (Sets.wordOf r 0 : Nat)) := fun x => (hr.below (hBF x) hr.lt).facts.1
  have d1 : ∀ x, (F x).cell? ⟨w.heap.size + 2, 1, none⟩ = some (.int .u64 (Sets.wordOf r 1 : Nat)) := fun x => (hr.below (hBF x) hr.lt).facts.2.1
  have d2 : ∀ x, (F x).cell? ⟨w.heap.size + 2, 2, none⟩ = some (.int .u64 (Sets.wordOf r 2 : Nat)) := fun x => (hr.below (hBF x) hr.lt).facts.2.2.1
  have d3 : ∀ x, (F x).cell? ⟨w.heap.size + 2, 3, none⟩ = some (.int .u64 (Sets.wordOf r 3 : Nat)) := fun x => (hr.below (hBF x) hr.lt).facts.2.2.2.1
  clear hp hq hr hT0
  refine region (by kernel_rfl) (by kernel_rfl) hw0 hF ?_
  repeat go_big_quiet_step (first
    | (go_at_call 19
       (with_reducible refine (uni p q pq h0.out _).mono ?_)
       rintro e w1 ⟨rfl, hb1⟩
       exact ⟨rfl, hF _ _ hb1⟩)
    | (go_at_call 19
       (with_reducible refine (uni q p pq h1.out _).mono ?_)
       rintro e w1 ⟨rfl, hb1⟩
       exact ⟨rfl, hF _ _ hb1⟩)
    | (go_at_call 20
       (with_reducible refine (int p q iq h2.out _).mono ?_)
       rintro e w1 ⟨rfl, hb1⟩
       exact ⟨rfl, hF _ _ hb1⟩)
    | (go_at_call 20
       (with_reducible refine (int q p iq h3.out _).mono ?_)
       rintro e w1 ⟨rfl, hb1⟩
       exact ⟨rfl, hF _ _ hb1⟩)
    | (go_at_call 19
       (with_reducible refine (uni pq r uv h4.out _).mono ?_)
       rintro e w1 ⟨rfl, hb1⟩
       exact ⟨rfl, hF _ _ hb1⟩)
    | (go_at_call 19
       (with_reducible refine (uni q r qr h5.out _).mono ?_)
       rintro e w1 ⟨rfl, hb1⟩
       exact ⟨rfl, hF _ _ hb1⟩)
    | (go_at_call 19
       (with_reducible refine (uni p qr uv h6.out _).mono ?_)
       rintro e w1 ⟨rfl, hb1⟩
       exact ⟨rfl, hF _ _ hb1⟩)
    | (go_at_call 20
       (with_reducible refine (int iq r iv h7.out _).mono ?_)
       rintro e w1 ⟨rfl, hb1⟩
       exact ⟨rfl, hF _ _ hb1⟩)
    | (go_at_call 20
       (with_reducible refine (int q r jr h8.out _).mono ?_)
       rintro e w1 ⟨rfl, hb1⟩
       exact ⟨rfl, hF _ _ hb1⟩)
    | (go_at_call 20
       (with_reducible refine (int p jr iv h9.out _).mono ?_)
       rintro e w1 ⟨rfl, hb1⟩
       exact ⟨rfl, hF _ _ hb1⟩)
    | (go_at_call 20
       (with_reducible refine (int p qr y1 h10.out _).mono ?_)
       rintro e w1 ⟨rfl, hb1⟩
       exact ⟨rfl, hF _ _ hb1⟩)
    | (go_at_call 20
       (with_reducible refine (int p r ir h11.out _).mono ?_)
       rintro e w1 ⟨rfl, hb1⟩
       exact ⟨rfl, hF _ _ hb1⟩)
    | (go_at_call 19
       (with_reducible refine (uni iq ir y1 h12.out _).mono ?_)
       rintro e w1 ⟨rfl, hb1⟩
       exact ⟨rfl, hF _ _ hb1⟩)
    | (go_at_call 19
       (with_reducible refine (uni p jr y2 h13.out _).mono ?_)
       rintro e w1 ⟨rfl, hb1⟩
       exact ⟨rfl, hF _ _ hb1⟩)
    | (go_at_call 19
       (with_reducible refine (uni p r pr h14.out _).mono ?_)
       rintro e w1 ⟨rfl, hb1⟩
       exact ⟨rfl, hF _ _ hb1⟩)
    | (go_at_call 20
       (with_reducible refine (int pq pr y2 h15.out _).mono ?_)
       rintro e w1 ⟨rfl, hb1⟩
       exact ⟨rfl, hF _ _ hb1⟩)
    | (go_at_call 25
       (with_reducible refine (com pq cm h16.out _).mono ?_)
       rintro e w1 ⟨rfl, hb1⟩
       exact ⟨rfl, hF _ _ hb1⟩)
    | (go_at_call 25
       (with_reducible refine (com p cp h17.out _).mono ?_)
       rintro e w1 ⟨rfl, hb1⟩
       exact ⟨rfl, hF _ _ hb1⟩)
    | (go_at_call 25
       (with_reducible refine (com q cq h18.out _).mono ?_)
       rintro e w1 ⟨rfl, hb1⟩
       exact ⟨rfl, hF _ _ hb1⟩)
    | (go_at_call 20
       (with_reducible refine (int cp cq cm h19.out _).mono ?_)
       rintro e w1 ⟨rfl, hb1⟩
       exact ⟨rfl, hF _ _ hb1⟩)
    | (go_at_call 25
       (with_reducible refine (com cp p h20.out _).mono ?_)
       rintro e w1 ⟨rfl, hb1⟩
       exact ⟨rfl, hF _ _ hb1⟩)
    | (go_at_call 20
       (with_reducible refine (int_no p cp h21.out _).mono ?_)
       rintro e w1 ⟨rfl, hb1⟩
       exact ⟨rfl, hF _ _ hb1⟩)
    | (go_at_call 19
       (with_reducible refine (uni p cp al h22.out _).mono ?_)
       rintro e w1 ⟨rfl, hb1⟩
       exact ⟨rfl, hF _ _ hb1⟩)
    | (go_at_call 23
       (with_reducible refine (min p q m h23.out _).mono ?_)
       rintro e w1 ⟨rfl, hb1⟩
       exact ⟨rfl, hF _ _ hb1⟩)
    | (go_at_call 20
       (with_reducible refine (int p cq m h24.out _).mono ?_)
       rintro e w1 ⟨rfl, hb1⟩
       exact ⟨rfl, hF _ _ hb1⟩)
    | (go_at_call 17
       (with_reducible refine (HC.out _).mono ?_)
       rintro e w1 ⟨rfl, hb1⟩
       exact ⟨rfl, hF _ _ hb1⟩)
    | (go_at_call 8
       (with_reducible refine (awake_any _ (hT _)).mono ?_)
       rintro e w1 ⟨rfl, hb1⟩
       exact ⟨rfl, hF _ _ hb1⟩))
  refine wpQuiet_nil ?_
  rintro _ ⟨x1, rfl⟩
  have hx2 : ∃ y, F x1 = F y := ⟨x1, rfl⟩
  go_wp2_with fail
  refine region (by kernel_rfl) (by kernel_rfl) hx2 hF ?_
  repeat go_big_quiet_step (first
    | (go_at_call 19
       (with_reducible refine (uni p q pq h0.out _).mono ?_)
       rintro e w1 ⟨rfl, hb1⟩
       exact ⟨rfl, hF _ _ hb1⟩)
    | (go_at_call 19
       (with_reducible refine (uni q p pq h1.out _).mono ?_)
       rintro e w1 ⟨rfl, hb1⟩
       exact ⟨rfl, hF _ _ hb1⟩)
    | (go_at_call 20
       (with_reducible refine (int p q iq h2.out _).mono ?_)
       rintro e w1 ⟨rfl, hb1⟩
       exact ⟨rfl, hF _ _ hb1⟩)
    | (go_at_call 20
       (with_reducible refine (int q p iq h3.out _).mono ?_)
       rintro e w1 ⟨rfl, hb1⟩
       exact ⟨rfl, hF _ _ hb1⟩)
    | (go_at_call 19
       (with_reducible refine (uni pq r uv h4.out _).mono ?_)
       rintro e w1 ⟨rfl, hb1⟩
       exact ⟨rfl, hF _ _ hb1⟩)
    | (go_at_call 19
       (with_reducible refine (uni q r qr h5.out _).mono ?_)
       rintro e w1 ⟨rfl, hb1⟩
       exact ⟨rfl, hF _ _ hb1⟩)
    | (go_at_call 19
       (with_reducible refine (uni p qr uv h6.out _).mono ?_)
       rintro e w1 ⟨rfl, hb1⟩
       exact ⟨rfl, hF _ _ hb1⟩)
    | (go_at_call 20
       (with_reducible refine (int iq r iv h7.out _).mono ?_)
       rintro e w1 ⟨rfl, hb1⟩
       exact ⟨rfl, hF _ _ hb1⟩)
    | (go_at_call 20
       (with_reducible refine (int q r jr h8.out _).mono ?_)
       rintro e w1 ⟨rfl, hb1⟩
       exact ⟨rfl, hF _ _ hb1⟩)
    | (go_at_call 20
       (with_reducible refine (int p jr iv h9.out _).mono ?_)
       rintro e w1 ⟨rfl, hb1⟩
       exact ⟨rfl, hF _ _ hb1⟩)
    | (go_at_call 20
       (with_reducible refine (int p qr y1 h10.out _).mono ?_)
       rintro e w1 ⟨rfl, hb1⟩
       exact ⟨rfl, hF _ _ hb1⟩)
    | (go_at_call 20
       (with_reducible refine (int p r ir h11.out _).mono ?_)
       rintro e w1 ⟨rfl, hb1⟩
       exact ⟨rfl, hF _ _ hb1⟩)
    | (go_at_call 19
       (with_reducible refine (uni iq ir y1 h12.out _).mono ?_)
       rintro e w1 ⟨rfl, hb1⟩
       exact ⟨rfl, hF _ _ hb1⟩)
    | (go_at_call 19
       (with_reducible refine (uni p jr y2 h13.out _).mono ?_)
       rintro e w1 ⟨rfl, hb1⟩
       exact ⟨rfl, hF _ _ hb1⟩)
    | (go_at_call 19
       (with_reducible refine (uni p r pr h14.out _).mono ?_)
       rintro e w1 ⟨rfl, hb1⟩
       exact ⟨rfl, hF _ _ hb1⟩)
    | (go_at_call 20
       (with_reducible refine (int pq pr y2 h15.out _).mono ?_)
       rintro e w1 ⟨rfl, hb1⟩
       exact ⟨rfl, hF _ _ hb1⟩)
    | (go_at_call 25
       (with_reducible refine (com pq cm h16.out _).mono ?_)
       rintro e w1 ⟨rfl, hb1⟩
       exact ⟨rfl, hF _ _ hb1⟩)
    | (go_at_call 25
       (with_reducible refine (com p cp h17.out _).mono ?_)
       rintro e w1 ⟨rfl, hb1⟩
       exact ⟨rfl, hF _ _ hb1⟩)
    | (go_at_call 25
       (with_reducible refine (com q cq h18.out _).mono ?_)
       rintro e w1 ⟨rfl, hb1⟩
       exact ⟨rfl, hF _ _ hb1⟩)
    | (go_at_call 20
       (with_reducible refine (int cp cq cm h19.out _).mono ?_)
       rintro e w1 ⟨rfl, hb1⟩
       exact ⟨rfl, hF _ _ hb1⟩)
    | (go_at_call 25
       (with_reducible refine (com cp p h20.out _).mono ?_)
       rintro e w1 ⟨rfl, hb1⟩
       exact ⟨rfl, hF _ _ hb1⟩)
    | (go_at_call 20
       (with_reducible refine (int_no p cp h21.out _).mono ?_)
       rintro e w1 ⟨rfl, hb1⟩
       exact ⟨rfl, hF _ _ hb1⟩)
    | (go_at_call 19
       (with_reducible refine (uni p cp al h22.out _).mono ?_)
       rintro e w1 ⟨rfl, hb1⟩
       exact ⟨rfl, hF _ _ hb1⟩)
    | (go_at_call 23
       (with_reducible refine (min p q m h23.out _).mono ?_)
       rintro e w1 ⟨rfl, hb1⟩
       exact ⟨rfl, hF _ _ hb1⟩)
    | (go_at_call 20
       (with_reducible refine (int p cq m h24.out _).mono ?_)
       rintro e w1 ⟨rfl, hb1⟩
       exact ⟨rfl, hF _ _ hb1⟩)
    | (go_at_call 17
       (with_reducible refine (HC.out _).mono ?_)
       rintro e w1 ⟨rfl, hb1⟩
       exact ⟨rfl, hF _ _ hb1⟩)
    | (go_at_call 8
       (with_reducible refine (awake_any _ (hT _)).mono ?_)
       rintro e w1 ⟨rfl, hb1⟩
       exact ⟨rfl, hF _ _ hb1⟩))
  refine wpQuiet_nil ?_
  rintro _ ⟨x2, rfl⟩
  have hx3 : ∃ y, F x2 = F y := ⟨x2, rfl⟩
  go_wp2_with fail
  refine region (by kernel_rfl) (by kernel_rfl) hx3 hF ?_
  repeat go_big_quiet_step (first
    | (go_at_call 19
       (with_reducible refine (uni p q pq h0.out _).mono ?_)
       rintro e w1 ⟨rfl, hb1⟩
       exact ⟨rfl, hF _ _ hb1⟩)
    | (go_at_call 19
       (with_reducible refine (uni q p pq h1.out _).mono ?_)
       rintro e w1 ⟨rfl, hb1⟩
       exact ⟨rfl, hF _ _ hb1⟩)
    | (go_at_call 20
       (with_reducible refine (int p q iq h2.out _).mono ?_)
       rintro e w1 ⟨rfl, hb1⟩
       exact ⟨rfl, hF _ _ hb1⟩)
    | (go_at_call 20
       (with_reducible refine (int q p iq h3.out _).mono ?_)
       rintro e w1 ⟨rfl, hb1⟩
       exact ⟨rfl, hF _ _ hb1⟩)
    | (go_at_call 19
       (with_reducible refine (uni pq r uv h4.out _).mono ?_)
       rintro e w1 ⟨rfl, hb1⟩
       exact ⟨rfl, hF _ _ hb1⟩)
    | (go_at_call 19
       (with_reducible refine (uni q r qr h5.out _).mono ?_)
       rintro e w1 ⟨rfl, hb1⟩
       exact ⟨rfl, hF _ _ hb1⟩)
    | (go_at_call 19
       (with_reducible refine (uni p qr uv h6.out _).mono ?_)
       rintro e w1 ⟨rfl, hb1⟩
       exact ⟨rfl, hF _ _ hb1⟩)
    | (go_at_call 20
       (with_reducible refine (int iq r iv h7.out _).mono ?_)
       rintro e w1 ⟨rfl, hb1⟩
       exact ⟨rfl, hF _ _ hb1⟩)
    | (go_at_call 20
       (with_reducible refine (int q r jr h8.out _).mono ?_)
       rintro e w1 ⟨rfl, hb1⟩
       exact ⟨rfl, hF _ _ hb1⟩)
    | (go_at_call 20
       (with_reducible refine (int p jr iv h9.out _).mono ?_)
       rintro e w1 ⟨rfl, hb1⟩
       exact ⟨rfl, hF _ _ hb1⟩)
    | (go_at_call 20
       (with_reducible refine (int p qr y1 h10.out _).mono ?_)
       rintro e w1 ⟨rfl, hb1⟩
       exact ⟨rfl, hF _ _ hb1⟩)
    | (go_at_call 20
       (with_reducible refine (int p r ir h11.out _).mono ?_)
       rintro e w1 ⟨rfl, hb1⟩
       exact ⟨rfl, hF _ _ hb1⟩)
    | (go_at_call 19
       (with_reducible refine (uni iq ir y1 h12.out _).mono ?_)
       rintro e w1 ⟨rfl, hb1⟩
       exact ⟨rfl, hF _ _ hb1⟩)
    | (go_at_call 19
       (with_reducible refine (uni p jr y2 h13.out _).mono ?_)
       rintro e w1 ⟨rfl, hb1⟩
       exact ⟨rfl, hF _ _ hb1⟩)
    | (go_at_call 19
       (with_reducible refine (uni p r pr h14.out _).mono ?_)
       rintro e w1 ⟨rfl, hb1⟩
       exact ⟨rfl, hF _ _ hb1⟩)
    | (go_at_call 20
       (with_reducible refine (int pq pr y2 h15.out _).mono ?_)
       rintro e w1 ⟨rfl, hb1⟩
       exact ⟨rfl, hF _ _ hb1⟩)
    | (go_at_call 25
       (with_reducible refine (com pq cm h16.out _).mono ?_)
       rintro e w1 ⟨rfl, hb1⟩
       exact ⟨rfl, hF _ _ hb1⟩)
    | (go_at_call 25
       (with_reducible refine (com p cp h17.out _).mono ?_)
       rintro e w1 ⟨rfl, hb1⟩
       exact ⟨rfl, hF _ _ hb1⟩)
    | (go_at_call 25
       (with_reducible refine (com q cq h18.out _).mono ?_)
       rintro e w1 ⟨rfl, hb1⟩
       exact ⟨rfl, hF _ _ hb1⟩)
    | (go_at_call 20
       (with_reducible refine (int cp cq cm h19.out _).mono ?_)
       rintro e w1 ⟨rfl, hb1⟩
       exact ⟨rfl, hF _ _ hb1⟩)
    | (go_at_call 25
       (with_reducible refine (com cp p h20.out _).mono ?_)
       rintro e w1 ⟨rfl, hb1⟩
       exact ⟨rfl, hF _ _ hb1⟩)
    | (go_at_call 20
       (with_reducible refine (int_no p cp h21.out _).mono ?_)
       rintro e w1 ⟨rfl, hb1⟩
       exact ⟨rfl, hF _ _ hb1⟩)
    | (go_at_call 19
       (with_reducible refine (uni p cp al h22.out _).mono ?_)
       rintro e w1 ⟨rfl, hb1⟩
       exact ⟨rfl, hF _ _ hb1⟩)
    | (go_at_call 23
       (with_reducible refine (min p q m h23.out _).mono ?_)
       rintro e w1 ⟨rfl, hb1⟩
       exact ⟨rfl, hF _ _ hb1⟩)
    | (go_at_call 20
       (with_reducible refine (int p cq m h24.out _).mono ?_)
       rintro e w1 ⟨rfl, hb1⟩
       exact ⟨rfl, hF _ _ hb1⟩)
    | (go_at_call 17
       (with_reducible refine (HC.out _).mono ?_)
       rintro e w1 ⟨rfl, hb1⟩
       exact ⟨rfl, hF _ _ hb1⟩)
    | (go_at_call 8
       (with_reducible refine (awake_any _ (hT _)).mono ?_)
       rintro e w1 ⟨rfl, hb1⟩
       exact ⟨rfl, hF _ _ hb1⟩))
  refine wpQuiet_nil ?_
  rintro _ ⟨x3, rfl⟩
  have hx4 : ∃ y, F x3 = F y := ⟨x3, rfl⟩
  go_wp2_with fail
  refine region (by kernel_rfl) (by kernel_rfl) hx4 hF ?_
  repeat go_big_quiet_step (first
    | (go_at_call 19
       (with_reducible refine (uni p q pq h0.out _).mono ?_)
       rintro e w1 ⟨rfl, hb1⟩
       exact ⟨rfl, hF _ _ hb1⟩)
    | (go_at_call 19
       (with_reducible refine (uni q p pq h1.out _).mono ?_)
       rintro e w1 ⟨rfl, hb1⟩
       exact ⟨rfl, hF _ _ hb1⟩)
    | (go_at_call 20
       (with_reducible refine (int p q iq h2.out _).mono ?_)
       rintro e w1 ⟨rfl, hb1⟩
       exact ⟨rfl, hF _ _ hb1⟩)
    | (go_at_call 20
       (with_reducible refine (int q p iq h3.out _).mono ?_)
       rintro e w1 ⟨rfl, hb1⟩
       exact ⟨rfl, hF _ _ hb1⟩)
    | (go_at_call 19
       (with_reducible refine (uni pq r uv h4.out _).mono ?_)
       rintro e w1 ⟨rfl, hb1⟩
       exact ⟨rfl, hF _ _ hb1⟩)
    | (go_at_call 19
       (with_reducible refine (uni q r qr h5.out _).mono ?_)
       rintro e w1 ⟨rfl, hb1⟩
       exact ⟨rfl, hF _ _ hb1⟩)
    | (go_at_call 19
       (with_reducible refine (uni p qr uv h6.out _).mono ?_)
       rintro e w1 ⟨rfl, hb1⟩
       exact ⟨rfl, hF _ _ hb1⟩)
    | (go_at_call 20
       (with_reducible refine (int iq r iv h7.out _).mono ?_)
       rintro e w1 ⟨rfl, hb1⟩
       exact ⟨rfl, hF _ _ hb1⟩)
    | (go_at_call 20
       (with_reducible refine (int q r jr h8.out _).mono ?_)
       rintro e w1 ⟨rfl, hb1⟩
       exact ⟨rfl, hF _ _ hb1⟩)
    | (go_at_call 20
       (with_reducible refine (int p jr iv h9.out _).mono ?_)
       rintro e w1 ⟨rfl, hb1⟩
       exact ⟨rfl, hF _ _ hb1⟩)
    | (go_at_call 20
       (with_reducible refine (int p qr y1 h10.out _).mono ?_)
       rintro e w1 ⟨rfl, hb1⟩
       exact ⟨rfl, hF _ _ hb1⟩)
    | (go_at_call 20
       (with_reducible refine (int p r ir h11.out _).mono ?_)
       rintro e w1 ⟨rfl, hb1⟩
       exact ⟨rfl, hF _ _ hb1⟩)
    | (go_at_call 19
       (with_reducible refine (uni iq ir y1 h12.out _).mono ?_)
       rintro e w1 ⟨rfl, hb1⟩
       exact ⟨rfl, hF _ _ hb1⟩)
    | (go_at_call 19
       (with_reducible refine (uni p jr y2 h13.out _).mono ?_)
       rintro e w1 ⟨rfl, hb1⟩
       exact ⟨rfl, hF _ _ hb1⟩)
    | (go_at_call 19
       (with_reducible refine (uni p r pr h14.out _).mono ?_)
       rintro e w1 ⟨rfl, hb1⟩
       exact ⟨rfl, hF _ _ hb1⟩)
    | (go_at_call 20
       (with_reducible refine (int pq pr y2 h15.out _).mono ?_)
       rintro e w1 ⟨rfl, hb1⟩
       exact ⟨rfl, hF _ _ hb1⟩)
    | (go_at_call 25
       (with_reducible refine (com pq cm h16.out _).mono ?_)
       rintro e w1 ⟨rfl, hb1⟩
       exact ⟨rfl, hF _ _ hb1⟩)
    | (go_at_call 25
       (with_reducible refine (com p cp h17.out _).mono ?_)
       rintro e w1 ⟨rfl, hb1⟩
       exact ⟨rfl, hF _ _ hb1⟩)
    | (go_at_call 25
       (with_reducible refine (com q cq h18.out _).mono ?_)
       rintro e w1 ⟨rfl, hb1⟩
       exact ⟨rfl, hF _ _ hb1⟩)
    | (go_at_call 20
       (with_reducible refine (int cp cq cm h19.out _).mono ?_)
       rintro e w1 ⟨rfl, hb1⟩
       exact ⟨rfl, hF _ _ hb1⟩)
    | (go_at_call 25
       (with_reducible refine (com cp p h20.out _).mono ?_)
       rintro e w1 ⟨rfl, hb1⟩
       exact ⟨rfl, hF _ _ hb1⟩)
    | (go_at_call 20
       (with_reducible refine (int_no p cp h21.out _).mono ?_)
       rintro e w1 ⟨rfl, hb1⟩
       exact ⟨rfl, hF _ _ hb1⟩)
    | (go_at_call 19
       (with_reducible refine (uni p cp al h22.out _).mono ?_)
       rintro e w1 ⟨rfl, hb1⟩
       exact ⟨rfl, hF _ _ hb1⟩)
    | (go_at_call 23
       (with_reducible refine (min p q m h23.out _).mono ?_)
       rintro e w1 ⟨rfl, hb1⟩
       exact ⟨rfl, hF _ _ hb1⟩)
    | (go_at_call 20
       (with_reducible refine (int p cq m h24.out _).mono ?_)
       rintro e w1 ⟨rfl, hb1⟩
       exact ⟨rfl, hF _ _ hb1⟩)
    | (go_at_call 17
       (with_reducible refine (HC.out _).mono ?_)
       rintro e w1 ⟨rfl, hb1⟩
       exact ⟨rfl, hF _ _ hb1⟩)
    | (go_at_call 8
       (with_reducible refine (awake_any _ (hT _)).mono ?_)
       rintro e w1 ⟨rfl, hb1⟩
       exact ⟨rfl, hF _ _ hb1⟩))
  refine wpQuiet_nil ?_
  rintro _ ⟨x4, rfl⟩
  have hx5 : ∃ y, F x4 = F y := ⟨x4, rfl⟩
  go_wp2_with fail
  refine region (by kernel_rfl) (by kernel_rfl) hx5 hF ?_
  repeat go_big_quiet_step (first
    | (go_at_call 19
       (with_reducible refine (uni p q pq h0.out _).mono ?_)
       rintro e w1 ⟨rfl, hb1⟩
       exact ⟨rfl, hF _ _ hb1⟩)
    | (go_at_call 19
       (with_reducible refine (uni q p pq h1.out _).mono ?_)
       rintro e w1 ⟨rfl, hb1⟩
       exact ⟨rfl, hF _ _ hb1⟩)
    | (go_at_call 20
       (with_reducible refine (int p q iq h2.out _).mono ?_)
       rintro e w1 ⟨rfl, hb1⟩
       exact ⟨rfl, hF _ _ hb1⟩)
    | (go_at_call 20
       (with_reducible refine (int q p iq h3.out _).mono ?_)
       rintro e w1 ⟨rfl, hb1⟩
       exact ⟨rfl, hF _ _ hb1⟩)
    | (go_at_call 19
       (with_reducible refine (uni pq r uv h4.out _).mono ?_)
       rintro e w1 ⟨rfl, hb1⟩
       exact ⟨rfl, hF _ _ hb1⟩)
    | (go_at_call 19
       (with_reducible refine (uni q r qr h5.out _).mono ?_)
       rintro e w1 ⟨rfl, hb1⟩
       exact ⟨rfl, hF _ _ hb1⟩)
    | (go_at_call 19
       (with_reducible refine (uni p qr uv h6.out _).mono ?_)
       rintro e w1 ⟨rfl, hb1⟩
       exact ⟨rfl, hF _ _ hb1⟩)
    | (go_at_call 20
       (with_reducible refine (int iq r iv h7.out _).mono ?_)
       rintro e w1 ⟨rfl, hb1⟩
       exact ⟨rfl, hF _ _ hb1⟩)
    | (go_at_call 20
       (with_reducible refine (int q r jr h8.out _).mono ?_)
       rintro e w1 ⟨rfl, hb1⟩
       exact ⟨rfl, hF _ _ hb1⟩)
    | (go_at_call 20
       (with_reducible refine (int p jr iv h9.out _).mono ?_)
       rintro e w1 ⟨rfl, hb1⟩
       exact ⟨rfl, hF _ _ hb1⟩)
    | (go_at_call 20
       (with_reducible refine (int p qr y1 h10.out _).mono ?_)
       rintro e w1 ⟨rfl, hb1⟩
       exact ⟨rfl, hF _ _ hb1⟩)
    | (go_at_call 20
       (with_reducible refine (int p r ir h11.out _).mono ?_)
       rintro e w1 ⟨rfl, hb1⟩
       exact ⟨rfl, hF _ _ hb1⟩)
    | (go_at_call 19
       (with_reducible refine (uni iq ir y1 h12.out _).mono ?_)
       rintro e w1 ⟨rfl, hb1⟩
       exact ⟨rfl, hF _ _ hb1⟩)
    | (go_at_call 19
       (with_reducible refine (uni p jr y2 h13.out _).mono ?_)
       rintro e w1 ⟨rfl, hb1⟩
       exact ⟨rfl, hF _ _ hb1⟩)
    | (go_at_call 19
       (with_reducible refine (uni p r pr h14.out _).mono ?_)
       rintro e w1 ⟨rfl, hb1⟩
       exact ⟨rfl, hF _ _ hb1⟩)
    | (go_at_call 20
       (with_reducible refine (int pq pr y2 h15.out _).mono ?_)
       rintro e w1 ⟨rfl, hb1⟩
       exact ⟨rfl, hF _ _ hb1⟩)
    | (go_at_call 25
       (with_reducible refine (com pq cm h16.out _).mono ?_)
       rintro e w1 ⟨rfl, hb1⟩
       exact ⟨rfl, hF _ _ hb1⟩)
    | (go_at_call 25
       (with_reducible refine (com p cp h17.out _).mono ?_)
       rintro e w1 ⟨rfl, hb1⟩
       exact ⟨rfl, hF _ _ hb1⟩)
    | (go_at_call 25
       (with_reducible refine (com q cq h18.out _).mono ?_)
       rintro e w1 ⟨rfl, hb1⟩
       exact ⟨rfl, hF _ _ hb1⟩)
    | (go_at_call 20
       (with_reducible refine (int cp cq cm h19.out _).mono ?_)
       rintro e w1 ⟨rfl, hb1⟩
       exact ⟨rfl, hF _ _ hb1⟩)
    | (go_at_call 25
       (with_reducible refine (com cp p h20.out _).mono ?_)
       rintro e w1 ⟨rfl, hb1⟩
       exact ⟨rfl, hF _ _ hb1⟩)
    | (go_at_call 20
       (with_reducible refine (int_no p cp h21.out _).mono ?_)
       rintro e w1 ⟨rfl, hb1⟩
       exact ⟨rfl, hF _ _ hb1⟩)
    | (go_at_call 19
       (with_reducible refine (uni p cp al h22.out _).mono ?_)
       rintro e w1 ⟨rfl, hb1⟩
       exact ⟨rfl, hF _ _ hb1⟩)
    | (go_at_call 23
       (with_reducible refine (min p q m h23.out _).mono ?_)
       rintro e w1 ⟨rfl, hb1⟩
       exact ⟨rfl, hF _ _ hb1⟩)
    | (go_at_call 20
       (with_reducible refine (int p cq m h24.out _).mono ?_)
       rintro e w1 ⟨rfl, hb1⟩
       exact ⟨rfl, hF _ _ hb1⟩)
    | (go_at_call 17
       (with_reducible refine (HC.out _).mono ?_)
       rintro e w1 ⟨rfl, hb1⟩
       exact ⟨rfl, hF _ _ hb1⟩)
    | (go_at_call 8
       (with_reducible refine (awake_any _ (hT _)).mono ?_)
       rintro e w1 ⟨rfl, hb1⟩
       exact ⟨rfl, hF _ _ hb1⟩))
  refine wpQuiet_nil ?_
  rintro _ ⟨x5, rfl⟩
  have hx6 : ∃ y, F x5 = F y := ⟨x5, rfl⟩
  go_wp2_with fail
  refine region (by kernel_rfl) (by kernel_rfl) hx6 hF ?_
  repeat go_big_quiet_step (first
    | (go_at_call 19
       (with_reducible refine (uni p q pq h0.out _).mono ?_)
       rintro e w1 ⟨rfl, hb1⟩
       exact ⟨rfl, hF _ _ hb1⟩)
    | (go_at_call 19
       (with_reducible refine (uni q p pq h1.out _).mono ?_)
       rintro e w1 ⟨rfl, hb1⟩
       exact ⟨rfl, hF _ _ hb1⟩)
    | (go_at_call 20
       (with_reducible refine (int p q iq h2.out _).mono ?_)
       rintro e w1 ⟨rfl, hb1⟩
       exact ⟨rfl, hF _ _ hb1⟩)
    | (go_at_call 20
       (with_reducible refine (int q p iq h3.out _).mono ?_)
       rintro e w1 ⟨rfl, hb1⟩
       exact ⟨rfl, hF _ _ hb1⟩)
    | (go_at_call 19
       (with_reducible refine (uni pq r uv h4.out _).mono ?_)
       rintro e w1 ⟨rfl, hb1⟩
       exact ⟨rfl, hF _ _ hb1⟩)
    | (go_at_call 19
       (with_reducible refine (uni q r qr h5.out _).mono ?_)
       rintro e w1 ⟨rfl, hb1⟩
       exact ⟨rfl, hF _ _ hb1⟩)
    | (go_at_call 19
       (with_reducible refine (uni p qr uv h6.out _).mono ?_)
       rintro e w1 ⟨rfl, hb1⟩
       exact ⟨rfl, hF _ _ hb1⟩)
    | (go_at_call 20
       (with_reducible refine (int iq r iv h7.out _).mono ?_)
       rintro e w1 ⟨rfl, hb1⟩
       exact ⟨rfl, hF _ _ hb1⟩)
    | (go_at_call 20
       (with_reducible refine (int q r jr h8.out _).mono ?_)
       rintro e w1 ⟨rfl, hb1⟩
       exact ⟨rfl, hF _ _ hb1⟩)
    | (go_at_call 20
       (with_reducible refine (int p jr iv h9.out _).mono ?_)
       rintro e w1 ⟨rfl, hb1⟩
       exact ⟨rfl, hF _ _ hb1⟩)
    | (go_at_call 20
       (with_reducible refine (int p qr y1 h10.out _).mono ?_)
       rintro e w1 ⟨rfl, hb1⟩
       exact ⟨rfl, hF _ _ hb1⟩)
    | (go_at_call 20
       (with_reducible refine (int p r ir h11.out _).mono ?_)
       rintro e w1 ⟨rfl, hb1⟩
       exact ⟨rfl, hF _ _ hb1⟩)
    | (go_at_call 19
       (with_reducible refine (uni iq ir y1 h12.out _).mono ?_)
       rintro e w1 ⟨rfl, hb1⟩
       exact ⟨rfl, hF _ _ hb1⟩)
    | (go_at_call 19
       (with_reducible refine (uni p jr y2 h13.out _).mono ?_)
       rintro e w1 ⟨rfl, hb1⟩
       exact ⟨rfl, hF _ _ hb1⟩)
    | (go_at_call 19
       (with_reducible refine (uni p r pr h14.out _).mono ?_)
       rintro e w1 ⟨rfl, hb1⟩
       exact ⟨rfl, hF _ _ hb1⟩)
    | (go_at_call 20
       (with_reducible refine (int pq pr y2 h15.out _).mono ?_)
       rintro e w1 ⟨rfl, hb1⟩
       exact ⟨rfl, hF _ _ hb1⟩)
    | (go_at_call 25
       (with_reducible refine (com pq cm h16.out _).mono ?_)
       rintro e w1 ⟨rfl, hb1⟩
       exact ⟨rfl, hF _ _ hb1⟩)
    | (go_at_call 25
       (with_reducible refine (com p cp h17.out _).mono ?_)
       rintro e w1 ⟨rfl, hb1⟩
       exact ⟨rfl, hF _ _ hb1⟩)
    | (go_at_call 25
       (with_reducible refine (com q cq h18.out _).mono ?_)
       rintro e w1 ⟨rfl, hb1⟩
       exact ⟨rfl, hF _ _ hb1⟩)
    | (go_at_call 20
       (with_reducible refine (int cp cq cm h19.out _).mono ?_)
       rintro e w1 ⟨rfl, hb1⟩
       exact ⟨rfl, hF _ _ hb1⟩)
    | (go_at_call 25
       (with_reducible refine (com cp p h20.out _).mono ?_)
       rintro e w1 ⟨rfl, hb1⟩
       exact ⟨rfl, hF _ _ hb1⟩)
    | (go_at_call 20
       (with_reducible refine (int_no p cp h21.out _).mono ?_)
       rintro e w1 ⟨rfl, hb1⟩
       exact ⟨rfl, hF _ _ hb1⟩)
    | (go_at_call 19
       (with_reducible refine (uni p cp al h22.out _).mono ?_)
       rintro e w1 ⟨rfl, hb1⟩
       exact ⟨rfl, hF _ _ hb1⟩)
    | (go_at_call 23
       (with_reducible refine (min p q m h23.out _).mono ?_)
       rintro e w1 ⟨rfl, hb1⟩
       exact ⟨rfl, hF _ _ hb1⟩)
    | (go_at_call 20
       (with_reducible refine (int p cq m h24.out _).mono ?_)
       rintro e w1 ⟨rfl, hb1⟩
       exact ⟨rfl, hF _ _ hb1⟩)
    | (go_at_call 17
       (with_reducible refine (HC.out _).mono ?_)
       rintro e w1 ⟨rfl, hb1⟩
       exact ⟨rfl, hF _ _ hb1⟩)
    | (go_at_call 8
       (with_reducible refine (awake_any _ (hT _)).mono ?_)
       rintro e w1 ⟨rfl, hb1⟩
       exact ⟨rfl, hF _ _ hb1⟩))
  refine wpQuiet_nil ?_
  rintro _ ⟨x6, rfl⟩
  go_wp2
  go_ret
  exact ⟨rfl, hb0.trans ((hBF x6).mono hb0.size)⟩
theorem walk (p q r : Nat → Bool) (w : World) (hT : TzHeld w) :
    Calls Tryd.prog 7 #[.agg #[.int .u64 (Sets.wordOf p 0 : Nat), .int .u64 (Sets.wordOf p 1 : Nat), .int .u64 (Sets.wordOf p 2 : Nat), .int .u64 (Sets.wordOf p 3 : Nat)], .agg #[.int .u64 (Sets.wordOf q 0 : Nat), .int .u64 (Sets.wordOf q 1 : Nat), .int .u64 (Sets.wordOf q 2 : Nat), .int .u64 (Sets.wordOf q 3 : Nat)], .agg #[.int .u64 (Sets.wordOf r 0 : Nat), .int .u64 (Sets.wordOf r 1 : Nat), .int .u64 (Sets.wordOf r 2 : Nat), .int .u64 (Sets.wordOf r 3 : Nat)]] w fun e w' => e = .returned (.bool true) ∧ Below w.heap.size w w' := by
  refine walk_of p q r (fun c => (p c || q c)) (fun c => (p c && q c)) (fun c => (p c || q c || r c)) (fun c => (q c || r c)) (fun c => (p c && q c && r c)) (fun c => (q c && r c)) (fun c => (p c && (q c || r c))) (fun c => (p c && r c)) (fun c => (p c || (q c && r c))) (fun c => (p c || r c)) (fun c => (!(p c || q c))) (fun c => (!p c)) (fun c => (!q c)) (fun c => true) (fun c => (p c && !q c)) w hT ?_ ?_ ?_ ?_ ?_ ?_ ?_ ?_ ?_ ?_ ?_ ?_ ?_ ?_ ?_ ?_ ?_ ?_ ?_ ?_ ?_ ?_ ?_ ?_ ?_ (Lib.hid (count_al _ fun _ => rfl))
  all_goals
    refine Lib.hid fun c => ?_
    cases p c <;> cases q c <;> cases r c <;> rfl
end Go.Proofs.YtncdcdgmmbcbfaaDoor.CharsetAlgebraWalk
