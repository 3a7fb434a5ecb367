/- The walk of AuditSorts: it returns true. No condition. -/
import Derived.Test.YtkekpiillbpciaaGreatDoorR20
import Derived.Test.YtkekpiillbpciaaGreatDoorR11
import Derived.Test.YtkekpiillbpciaaGreatDoorR0
import Derived.Test.YtkekpiillbpciaaGreatDoorCxAwake
import Derived.Deep.RegionHeld3
namespace Go.Proofs.YtkekpiillbpciaaGreatDoor.AuditSortsWalk
open Go Go.RowKit KeyMath KeyVals Strs KLoc KRefCmp KMerge KSame KSorted
set_option maxRecDepth 100000
theorem awake_any (w : World) : Calls Tryz.prog 5 #[] w fun e w' => e = .returned (.bool true) ∧ Below w.heap.size w w' := Cx.awake_calls w
theorem reps_of_row {w : World} {base : Nat} {v : Value} {rs : List (Int × Int)} (h : w.ownsRow base 60 2 v rs.length (rcells rs)) : Reps w v rs := by
  rcases h.2 with ⟨rfl, h0⟩ | ⟨g, cap, cur, rfl, hb, hg, hnc, hcm, hcs, htk⟩
  · have : rs = [] := List.eq_nil_of_length_eq_zero h0
    subst this
    exact ⟨none, 0, rfl, ⟨Nat.le_refl _, Nat.zero_le _⟩, fun h => absurd rfl h⟩
  · refine ⟨_, cap, rfl, ⟨hnc, hcm⟩, fun _ => ⟨g, 0, rfl, fun j x hj => ?_⟩⟩
    have at1 : ∀ (l : List (Int × Int)) (j : Nat) (x : Int × Int), l[j]? = some x → (rcells l)[j * 2]? = some (.int .i64 x.1) ∧ (rcells l)[j * 2 + 1]? = some (.int .i64 x.2) := by
      intro l
      induction l with
      | nil => intro j x h; cases h
      | cons y r ih =>
        intro j x h
        cases j with
        | zero =>
          simp at h
          subst h
          exact ⟨rfl, rfl⟩
        | succ j =>
          have := ih j x (by simpa using h)
          rw [show (j + 1) * 2 = j * 2 + 1 + 1 from by omega]
          exact this
    obtain ⟨q1, q2⟩ := at1 rs j x hj
    have hjl := (List.getElem?_eq_some_iff.1 hj).1
    rw [← htk, List.getElem?_take] at q1 q2
    rw [if_pos (by omega)] at q1 q2
    rw [Nat.zero_add, cell_of_row w g _ cur _ _ hg, cell_of_row w g _ cur _ _ hg]
    exact ⟨by simpa using q1, by simpa using q2⟩
theorem not_false_of : ∀ {b : Bool}, (!b) = false → b = true := by decide
theorem default_on (w : World) : Calls Tryz.prog 8 #[] w fun e w' => ∃ g c, e = .returned (.agg #[.string ⟨#[112, 111, 115, 105, 120]⟩, .slice (some ⟨g, 0, none⟩) 256 c, .string ⟨lowT.toArray⟩, .string ⟨upT.toArray⟩, .slice none 0 0, .slice none 0 0]) ∧ Hid (Wts w' (.slice (some ⟨g, 0, none⟩) 256 c)) ∧ Below w.heap.size w w' := by
  refine (default_any w).mono ?_
  rintro e w' ⟨v, rfl, hv, hb⟩
  obtain ⟨g, c, rfl, h1, h2⟩ := hv
  exact ⟨g, c, rfl, ⟨g, c, rfl, h1, h2⟩, hb⟩
/-- what the law's two blocks hold -/
def LCells (b : Nat) (sv a c : Value) (p : SortSpec) (w : World) : Prop :=
  w.cell? ⟨b, 0, none⟩ = some sv ∧ w.cell? ⟨b, 1, none⟩ = some (.int .i64 p.sep) ∧ w.cell? ⟨b, 2, none⟩ = some (.int .i64 p.fl) ∧ w.cell? ⟨b, 3, none⟩ = some (.bool p.uniq) ∧ w.cell? ⟨b, 4, none⟩ = some (.bool p.stable) ∧ w.cell? ⟨b + 1, 0, none⟩ = some a ∧ w.cell? ⟨b + 1, 1, none⟩ = some c
theorem LCells.below {b : Nat} {sv a c : Value} {p : SortSpec} {w w' : World} (h : LCells b sv a c p w) (hb : Below w.heap.size w w') : LCells b sv a c p w' :=
  ⟨up hb h.1, up hb h.2.1, up hb h.2.2.1, up hb h.2.2.2.1, up hb h.2.2.2.2.1, up hb h.2.2.2.2.2.1, up hb h.2.2.2.2.2.2⟩
set_option maxHeartbeats 8000000 in
theorem walk (sv a b : Value) (p : SortSpec) (xs ys : List Str) (w : World) (hk : Keys w sv p.keys) (ha : Strs w a xs) (hb : Strs w b ys) :
    Calls Tryz.prog 3 #[specVal sv p, .agg #[a, b]] w fun e w' => e = .returned (.bool true) ∧ Below w.heap.size w w' := by
  have HK := Lib.hid hk
  have HA := Lib.hid ha
  have HB := Lib.hid hb
  have HAW := Lib.hid awake_any
  have HSA := Lib.hid (fun W h => KShort.short_any a xs W h)
  have HSB := Lib.hid (fun W h => KShort.short_any b ys W h)
  have HSO := Lib.hid (fun g c W hW hK (h1 : xs.length ≤ 20 ∧ ∀ x ∈ xs, x.length ≤ 60) (h2 : ys.length ≤ 20 ∧ ∀ x ∈ ys, x.length ≤ 60) hA hB => sorted_any (.slice (some ⟨g, 0, none⟩) 256 c) sv p xs ys a b W hW hK (by omega) (by omega) (fun x hx => by have := h1.2 x hx; omega) (fun x hx => by have := h2.2 x hx; omega) hA hB)
  have HRS := Lib.hid (fun g c W hW hK (h1 : xs.length ≤ 20 ∧ ∀ x ∈ xs, x.length ≤ 60) (h2 : ys.length ≤ 20 ∧ ∀ x ∈ ys, x.length ≤ 60) hA hB => refSorted_any (.slice (some ⟨g, 0, none⟩) 256 c) sv p xs ys a b W hW hK (by omega) (by omega) (fun x hx => by have := h1.2 x hx; omega) (fun x hx => by have := h2.2 x hx; omega) hA hB)
  have HDF := Lib.hid default_on
  have HSM := Lib.hid (fun u v W h1 h2 => same_any u v (reps p xs ys) W h1 h2)
  obtain ⟨ka, kc, rfl, hkcap, -⟩ := hk
  obtain ⟨aa, ca, rfl, -⟩ := strs_form ha
  obtain ⟨ab, cb, rfl, -⟩ := strs_form hb
  clear ha hb
  obtain ⟨ks, sep, fl, uq, st⟩ := p
  unfold specVal posix at *
  simp only at *
  have hb1 := ((Below.refl w.heap.size w).alloc (Nat.le_refl _) (.cells #[.slice ka ks.length kc, .int .i64 sep, .int .i64 fl, .bool uq, .bool st] 24)).alloc (by simp) (.cells #[.slice aa xs.length ca, .slice ab ys.length cb] 27)
  have HB1 := Lib.hid hb1
  have hbs := hb1.size
  have hc1 : Hid (LCells w.heap.size (.slice ka ks.length kc) (.slice aa xs.length ca) (.slice ab ys.length cb) ⟨ks, sep, fl, uq, st⟩ ((w.alloc (.cells #[.slice ka ks.length kc, .int .i64 sep, .int .i64 fl, .bool uq, .bool st] 24)).alloc (.cells #[.slice aa xs.length ca, .slice ab ys.length cb] 27))) := by
    have e1 := (Below.heap_alloc (w.alloc (.cells #[.slice ka ks.length kc, .int .i64 sep, .int .i64 fl, .bool uq, .bool st] 24)) (.cells #[.slice aa xs.length ca, .slice ab ys.length cb] 27) w.heap.size (by simp)).trans (heap_alloc_new w _)
    have e2 := alloc2 w (.cells #[.slice ka ks.length kc, .int .i64 sep, .int .i64 fl, .bool uq, .bool st] 24) (.cells #[.slice aa xs.length ca, .slice ab ys.length cb] 27)
    refine ⟨?_, ?_, ?_, ?_, ?_, ?_, ?_⟩
    all_goals first | (rw [cell_of_row _ _ _ _ _ _ e1]; rfl) | (rw [cell_of_row _ _ _ _ _ _ e2]; rfl)
  clear hb1
  go_enter Tryz.func3, Tryz.ntmps3
  by_cases h10 : 10 < ks.length
  · have h10' : (10 : Int) < (ks.length : Int) := by omega
    go_wp2_with (go_at_call 5; (with_reducible refine (HAW.out _).mono ?_); rintro e w2 ⟨rfl, hb2⟩)
    go_ret
    exact ⟨rfl, below_step HB1.out hb2⟩
  · have h10' : ¬ (10 : Int) < (ks.length : Int) := by omega
    go_wp2_with (first
      | (go_at_call_of 4 (Value.slice aa xs.length ca)
         (with_reducible refine (HSA.out _ (HA.out.below HB1.out)).mono ?_)
         rintro e w2 ⟨q1, rfl, rfl, hq1⟩
         have HQ1 := Lib.hid hq1
         clear hq1)
      | (go_at_call_of 4 (Value.slice ab ys.length cb)
         (with_reducible refine (HSB.out _ (HB.out.below HB1.out)).mono ?_)
         rintro e w2 ⟨q2, rfl, rfl, hq2⟩
         have HQ2 := Lib.hid hq2
         clear hq2)
      | (go_at_call 5
         (with_reducible refine (HAW.out _).mono ?_)
         rintro e w5 ⟨rfl, hb5⟩))
    all_goals
      first
      | (go_ret; exact ⟨rfl, below_step HB1.out hb5⟩)
      | (have hq1 := HQ1.out (by first | assumption | rfl)
         have hq2 := HQ2.out (by first | assumption | exact not_false_of (by assumption))
         have HQA := Lib.hid hq1
         have HQB := Lib.hid hq2
         clear hq1 hq2
         generalize (w.alloc (.cells #[.slice ka ks.length kc, .int .i64 sep, .int .i64 fl, .bool uq, .bool st] 24)).alloc (.cells #[.slice aa xs.length ca, .slice ab ys.length cb] 27) = w1 at *
         obtain ⟨m0, m1, m2, m3, m4, m5, m6⟩ := hc1.out
         go_region_held3 (fun w' => w'.cell? ⟨w.heap.size, 0, none⟩ = some (.slice ka ks.length kc) ∧ w'.cell? ⟨w.heap.size, 1, none⟩ = some (.int .i64 sep) ∧ w'.cell? ⟨w.heap.size, 2, none⟩ = some (.int .i64 fl) ∧ w'.cell? ⟨w.heap.size, 3, none⟩ = some (.bool uq) ∧ w'.cell? ⟨w.heap.size, 4, none⟩ = some (.bool st) ∧ w'.cell? ⟨w.heap.size + 1, 0, none⟩ = some (.slice aa xs.length ca) ∧ w'.cell? ⟨w.heap.size + 1, 1, none⟩ = some (.slice ab ys.length cb)) (first | exact LC8.out | exact LC7.out | exact LC6.out | exact LC5.out | exact LC4.out | exact LC3.out | exact hc1.out)
           (first
             | (go_at_call 8
                have HX4 := HW4.out
                (with_reducible refine (HDF.out _).mono ?_)
                rintro e w5 ⟨g5, c5, rfl, hv5, hb5⟩
                have HW5 : Hid (Below w.heap.size w w5) := below_step HW4.out hb5
                have LC5 := Lib.hid (LC4.out.below hb5)
                have HR5 := Lib.hid (row_keep HR4.out hb5 (Nat.le_refl _)))
             | (go_at_call 8
                (with_reducible refine (HDF.out _).mono ?_)
                rintro e w3 ⟨g3, c3, rfl, hv3, hb3⟩
                have hb3' : Below w1.heap.size w1 w3 := (by first | exact hb3 | exact (Below.refl _ w1).drew.trans hb3)
                have HW3 : Hid (Below w.heap.size w w3) := below_step HB1.out hb3'
                have LC3 := Lib.hid (hc1.out.below hb3'))
             | (go_at_call 7
                (with_reducible refine (HSO.out g3 c3 _ hv3.out (HK.out.below HW3.out) HQA.out HQB.out (HA.out.below HW3.out) (HB.out.below HW3.out)).mono ?_)
                rintro e w4 ⟨v4, rfl, hrow4, hb4⟩
                have HR4 := Lib.hid hrow4
                have HW4 : Hid (Below w.heap.size w w4) := below_step HW3.out hb4
                have LC4 := Lib.hid (LC3.out.below hb4)
                clear hrow4)
             | (go_at_call 9
                (with_reducible refine (HRS.out g5 c5 _ hv5.out (HK.out.below HW5.out) HQA.out HQB.out (HA.out.below HW5.out) (HB.out.below HW5.out)).mono ?_)
                rintro e w6 ⟨v6, rfl, hrow6, hb6⟩
                have HR6 := Lib.hid hrow6
                have HR46 := Lib.hid (row_keep HR5.out hb6 (Nat.le_refl _))
                have HW6 : Hid (Below w.heap.size w w6) := below_step HW5.out hb6
                have LC6 := Lib.hid (LC5.out.below hb6)
                clear hrow6)
             | (go_at_call 6
                (with_reducible refine (HSM.out v4 v6 _ (reps_of_row HR46.out) (reps_of_row HR6.out)).mono ?_)
                rintro e w7 ⟨rfl, n7, hn7⟩
                have HW7 : Hid (Below w.heap.size w w7) := (by rw [hn7]; exact Base.below_drewN HW6.out n7)
                have LC7 : Hid (LCells w.heap.size (.slice ka ks.length kc) (.slice aa xs.length ca) (.slice ab ys.length cb) ⟨ks, sep, fl, uq, st⟩ w7) := (by rw [hn7]; exact LC6.out)
                clear hn7)
             | (go_at_call 5
                (with_reducible refine (HAW.out _).mono ?_)
                rintro e w8 ⟨rfl, hb8⟩
                have HW8 : Hid (Below w.heap.size w w8) := below_step HW7.out hb8
                have LC8 := Lib.hid (LC7.out.below hb8)))
         all_goals go_wp2
         all_goals go_ret
         all_goals exact ⟨rfl, HW8.out⟩)
theorem whole (sv : Value) (p : SortSpec) (a b : Value) (xs ys : List Str) (w : World) (hk : Keys w sv p.keys) (hab : Strs w a xs ∧ Strs w b ys) :
    Calls Tryz.prog 3 #[specVal sv p, .agg #[a, b]] w fun e w' => e = .returned (.bool true) ∧ Below w.heap.size w w' := walk sv a b p xs ys w hk hab.1 hab.2
end Go.Proofs.YtkekpiillbpciaaGreatDoor.AuditSortsWalk
