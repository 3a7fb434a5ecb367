/- KRepSt; KRefSorted; KSorted: merged into one text: lemmas for the walk of the law. No condition. -/
import Derived.Test.YtkekpiillbpciaaGreatDoorR19
import Derived.Test.YtkekpiillbpciaaGreatDoorR18
import Derived.Test.YtkekpiillbpciaaGreatDoorR17
import Derived.Test.YtkekpiillbpciaaGreatDoorR11
import Derived.Test.YtkekpiillbpciaaGreatDoorR12
/- What stays while the reports about sorted lines are collected. -/
namespace Go.Proofs.YtkekpiillbpciaaGreatDoor.KSorted
open Go Go.RowKit KeyMath KeyVals ScanMath Strs KLoc KRefCmp KSpec KEnv SortMath KMerge KSame KEach
set_option maxRecDepth 100000
/-- the locale and the specification in their blocks, and nothing else that stood before is changed -/
structure St (w : World) (v sv : Value) (p : SortSpec) (W : World) : Prop where
  box : Box W w.heap.size v
  spec : SBox W (w.heap.size + 1) sv p
  below : Below w.heap.size w W
theorem St.room {w W : World} {v sv : Value} {p : SortSpec} (h : St w v sv p W) : w.heap.size + 2 ≤ W.heap.size := h.spec.lt
theorem St.step {w W W' : World} {v sv : Value} {p : SortSpec} (h : St w v sv p W) {B : Nat} (hB : w.heap.size + 2 ≤ B) (hb : Below B W W') : St w v sv p W' :=
  ⟨h.box.keep (hb.block _ (by omega)), h.spec.keep (hb.block _ (by omega)), h.below.trans (hb.mono (by omega))⟩
theorem St.drewN {w W : World} {v sv : Value} {p : SortSpec} (h : St w v sv p W) (n : Nat) : St w v sv p (W.drewN n) := ⟨h.box, h.spec, Base.below_drewN h.below n⟩
theorem Adds.toBelow {w w' : World} {b base B : Nat} (h : Adds w b base w') (hb : B ≤ b) (hbb : b ≤ base) : Below B w w' := ⟨h.os, h.tape, h.output, h.size, fun k hk => h.block k (by omega) (by omega)⟩
theorem noted_len (rs : List (Int × Int)) (k i : Int) : (noted rs k i).length ≤ rs.length + 1 := by
  unfold noted
  split <;> simp
theorem row_keep {w w' : World} {base : Nat} {e : TypeId} {size : Nat} {v : Value} {n : Nat} {xs : List Value} {B : Nat} (h : w.ownsRow base e size v n xs) (hb : Below B w w') (hB : w.heap.size ≤ B) : w'.ownsRow base e size v n xs := KRefCmp.ownsRow_keep h fun k hk => hb.block k (by have := (KRefCmp.ownsRow_block h k hk).2; omega)
theorem row_keepA {w w' : World} {base : Nat} {e : TypeId} {size : Nat} {v : Value} {n : Nat} {xs : List Value} (h : w.ownsRow base e size v n xs) {k0 : Nat} (hk : ∀ k, base ≤ k → k < w.heap.size → w'.heap[k]? = w.heap[k]?) (_ : k0 = k0) : w'.ownsRow base e size v n xs := KRefCmp.ownsRow_keep h fun k h1 => hk k (KRefCmp.ownsRow_block h k h1).1 (KRefCmp.ownsRow_block h k h1).2
theorem nil_row (w : World) (base : Nat) : w.ownsRow base 60 2 (.slice none 0 0) 0 (rcells []) := ⟨rfl, .inl ⟨rfl, rfl⟩⟩
/-- the reports -/
def reps (p : SortSpec) (l o : List Str) : List (Int × Int) := if check p = 0 then sorted p l o else [(1, 0)]
theorem reps_bad {p : SortSpec} {l o : List Str} (h : check p ≠ 0) : reps p l o = [(1, 0)] := if_neg h
theorem reps_good {p : SortSpec} {l o : List Str} (h : check p = 0) : reps p l o = if noted (noted (noted [] 2 (unsorted p o)) 3 (extra o l)) 4 (missing p l o) = [] then noted (noted (noted (noted [] 2 (unsorted p o)) 3 (extra o l)) 4 (missing p l o)) 5 (KeyMath.differ o (sort p l)) else noted (noted (noted [] 2 (unsorted p o)) 3 (extra o l)) 4 (missing p l o) := if_pos h
/-- what a call leaves that makes reports -/
def RPost (w : World) (rs : List (Int × Int)) (e : Ending) (w' : World) : Prop := ∃ v, e = .returned v ∧ w'.ownsRow w.heap.size 60 2 v rs.length (rcells rs) ∧ Below w.heap.size w w'
theorem bad_row (w : World) (base : Nat) (h : base ≤ w.heap.size) : (w.alloc (.cells #[.int .i64 1, .int .i64 0] 60)).ownsRow base 60 2 (.slice (some ⟨w.heap.size, 0, none⟩) 1 1) 1 (rcells [(1, 0)]) :=
  ⟨rfl, .inr ⟨w.heap.size, 1, #[.int .i64 1, .int .i64 0], rfl, h, heap_alloc_new w _, Nat.le_refl _, by unfold maxLen; omega, rfl, rfl⟩⟩
end Go.Proofs.YtkekpiillbpciaaGreatDoor.KSorted

/- The reports about sorted lines: what the reference's Sorted returns. At most 65536 lines of at most 65536 bytes. -/
namespace Go.Proofs.YtkekpiillbpciaaGreatDoor.KSorted
open Go Go.RowKit KeyMath KeyVals ScanMath Strs KLoc KRefCmp KSpec KEnv SortMath KMerge KSame KEach
set_option maxRecDepth 100000
set_option maxHeartbeats 16000000 in
theorem refSorted_any (v sv : Value) (p : SortSpec) (xs ys : List Str) (a b : Value) (w : World) (hv : Wts w v) (hk : Keys w sv p.keys) (hx : xs.length ≤ 65536) (hy : ys.length ≤ 65536) (hfx : Fit xs) (hfy : Fit ys) (ha : Strs w a xs) (hb : Strs w b ys) :
    Calls Tryz.prog 9 #[.agg #[posix, v, .string ⟨lowT.toArray⟩, .string ⟨upT.toArray⟩, .slice none 0 0, .slice none 0 0], specVal sv p, a, b] w (RPost w (reps p xs ys)) := by
  have HBAD := Lib.hid (fun h => @reps_bad p xs ys h)
  have HGOOD := Lib.hid (fun h => @reps_good p xs ys h)
  have HV := Lib.hid hv
  have HK := Lib.hid hk
  have HA := Lib.hid ha
  have HB := Lib.hid hb
  obtain ⟨aa, ca, rfl, -⟩ := strs_form ha
  obtain ⟨ab, cb, rfl, -⟩ := strs_form hb
  clear ha hb
  have HCK := Lib.hid (fun W (hW : Keys W sv p.keys) => KCheck.refCheck_any sv p W hW)
  by_cases h0 : check p = 0
  · rw [h0] at HCK
    have HUN := Lib.hid (fun W hW hK hS => KUnsorted.refUnsorted_any v sv p ys (.slice ab ys.length cb) W hW hK h0 hfy hS)
    have HEO := Lib.hid (fun W hA hB => KCount.extra_any (.slice ab ys.length cb) (.slice aa xs.length ca) ys xs W hA hB)
    have HEI := Lib.hid (fun W hA hB => KCount.extra_any (.slice aa xs.length ca) (.slice ab ys.length cb) xs ys W hA hB)
    have HLO := Lib.hid (fun W hW hK hA hB => KIndex.lost_any v sv p xs ys (.slice aa xs.length ca) (.slice ab ys.length cb) W hW hK h0 hfx hfy hA hB)
    have HSO := Lib.hid (fun W hW hK hA => KRefSort.refSort_any v sv p xs (.slice aa xs.length ca) W hW hK h0 hx hfx hA)
    have HDI := Lib.hid (fun u W hB hS => KDiffer.refDiffer_any (.slice ab ys.length cb) u ys (sort p xs) W hB hS)
    have HSL := (sort_fit p xs hfx).2
    have HR := Lib.hid (HGOOD.out h0)
    have HMI : Hid (missing p xs ys = if p.uniq then lost p xs ys else extra xs ys) := rfl
    clear HBAD HGOOD h0 hfx hfy
    obtain ⟨g, c, rfl, hgc, hcell⟩ := hv
    obtain ⟨ka, kc, rfl, -⟩ := hk
    clear hcell
    obtain ⟨ks, sep, fl, uq, st⟩ := p
    unfold posix specVal at *
    simp only at *
    generalize reps (⟨ks, sep, fl, uq, st⟩ : SortSpec) xs ys = R at *
    generalize unsorted (⟨ks, sep, fl, uq, st⟩ : SortSpec) ys = U at *
    generalize lost (⟨ks, sep, fl, uq, st⟩ : SortSpec) xs ys = L at *
    generalize missing (⟨ks, sep, fl, uq, st⟩ : SortSpec) xs ys = M at *
    generalize extra ys xs = EO at *
    generalize extra xs ys = EI at *
    generalize KeyMath.differ ys (sort (⟨ks, sep, fl, uq, st⟩ : SortSpec) xs) = DF at *
    generalize sort (⟨ks, sep, fl, uq, st⟩ : SortSpec) xs = SO at *
    have hb1 := ((Below.refl w.heap.size w).alloc (Nat.le_refl _) (.cells #[.string ⟨#[112, 111, 115, 105, 120]⟩, .slice (some ⟨g, 0, none⟩) 256 c, .string ⟨lowT.toArray⟩, .string ⟨upT.toArray⟩, .slice none 0 0, .slice none 0 0] 37)).alloc (by simp) (.cells #[.slice ka ks.length kc, .int .i64 sep, .int .i64 fl, .bool uq, .bool st] 24)
    have HB1 := Lib.hid hb1
    clear hb1
    have n1 : (noted [] 2 U).length ≤ 1 := noted_len [] 2 U
    have n2 : (noted (noted [] 2 U) 3 EO).length ≤ 2 := Nat.le_trans (noted_len _ _ _) (by omega)
    have n3 : (noted (noted (noted [] 2 U) 3 EO) 4 M).length ≤ 3 := Nat.le_trans (noted_len _ _ _) (by omega)
    generalize hr1 : noted [] 2 U = r1 at *
    generalize hr2 : noted r1 3 EO = r2 at *
    generalize hr3 : noted r2 4 M = r3 at *
    have HR1 := Lib.hid hr1
    have HR2 := Lib.hid hr2
    have HR3 := Lib.hid hr3
    clear hr1 hr2 hr3
    cases uq with
    | false =>
      have HM : Hid (M = EI) := HMI.out
      rw [HM.out] at HR3
      clear HM HMI
      rcases r3 with _ | ⟨rh, rt⟩
      · have HR0 : Hid (R = noted [] 5 DF) := by show _ = _; rw [HR.out]; exact if_pos rfl
        simp only [List.length_nil] at *
        go_enter Tryz.func9, Tryz.ntmps9
        go_wp2_with (first
          | (go_at_call 20
             (with_reducible refine (HCK.out _ (HK.out.below HB1.out)).mono ?_)
             rintro e w2 ⟨rfl, hb2⟩
             have HB2 := Lib.hid (below_step HB1.out hb2)
             have hbx : Box w2 w.heap.size (.slice (some ⟨g, 0, none⟩) 256 c) := (hb2.block _ (by simp <;> omega)).trans ((Below.heap_alloc _ _ _ (by simp)).trans (heap_alloc_new w _))
             have hsx : SBox w2 (w.heap.size + 1) (.slice ka ks.length kc) ⟨ks, sep, fl, false, st⟩ := (hb2.block _ (by simp)).trans (alloc2 w _ _)
             have S2 : Hid (St w (.slice (some ⟨g, 0, none⟩) 256 c) (.slice ka ks.length kc) ⟨ks, sep, fl, false, st⟩ w2) := ⟨hbx, hsx, HB2.out⟩
             obtain ⟨-, c21, c22, c23, c24, c25⟩ := S2.out.box.cells
             have c20 := S2.out.box.cells'
             obtain ⟨d20, d21, d22, d23, d24⟩ := S2.out.spec.cells
             clear hbx hsx)
          | (go_at_call 22
             (with_reducible refine (HUN.out _ (HV.out.below HB2.out) (HK.out.below HB2.out) (HB.out.below HB2.out)).mono ?_)
             rintro e w3 ⟨rfl, hb3⟩
             have S3 := Lib.hid (S2.out.step S2.out.room hb3))
          | (go_at_call 21
             (with_reducible refine (noted_any (.slice none 0 0) [] 2 U (w.heap.size + 2) w3 (nil_row _ _) (by simp) S3.out.room).mono ?_)
             rintro e w4 ⟨v4, rfl, hrow4, hb4⟩
             rw [HR1.out] at hrow4
             have S4 := Lib.hid (S3.out.step (Nat.le_refl _) hb4)
             have HW4 := Lib.hid hrow4
             obtain ⟨a4, c4', rfl⟩ := (Own.Row.of hrow4).form
             clear hrow4)
          | (go_at_call_of 23 (Value.slice ab ys.length cb)
             (with_reducible refine (HEO.out _ (HB.out.below S4.out.below) (HA.out.below S4.out.below)).mono ?_)
             rintro e w5 ⟨rfl, n5, hn5⟩
             have S5 : Hid (St w (.slice (some ⟨g, 0, none⟩) 256 c) (.slice ka ks.length kc) ⟨ks, sep, fl, false, st⟩ w5) := (by rw [hn5]; exact S4.out.drewN n5)
             have HW5 : Hid (w5.ownsRow (w.heap.size + 2) 60 2 (.slice a4 r1.length c4') r1.length (rcells r1)) := (by rw [hn5]; exact HW4.out)
             clear hn5)
          | (go_at_call 21
             (with_reducible refine (noted_any (.slice a4 r1.length c4') r1 3 EO (w.heap.size + 2) w5 HW5.out (by omega) S5.out.room).mono ?_)
             rintro e w6 ⟨v6, rfl, hrow6, hb6⟩
             rw [HR2.out] at hrow6
             have S6 := Lib.hid (S5.out.step (Nat.le_refl _) hb6)
             have HW6 := Lib.hid hrow6
             obtain ⟨a6, c6', rfl⟩ := (Own.Row.of hrow6).form
             obtain ⟨-, c61, c62, c63, c64, c65⟩ := S6.out.box.cells
             have c60 := S6.out.box.cells'
             obtain ⟨d60, d61, d62, d63, d64⟩ := S6.out.spec.cells
             clear hrow6)
          | (go_at_call_of 23 (Value.slice aa xs.length ca)
             (with_reducible refine (HEI.out _ (HA.out.below S6.out.below) (HB.out.below S6.out.below)).mono ?_)
             rintro e w7 ⟨rfl, n7, hn7⟩
             have S7 : Hid (St w (.slice (some ⟨g, 0, none⟩) 256 c) (.slice ka ks.length kc) ⟨ks, sep, fl, false, st⟩ w7) := (by rw [hn7]; exact S6.out.drewN n7)
             have HW7 : Hid (w7.ownsRow (w.heap.size + 2) 60 2 (.slice a6 r2.length c6') r2.length (rcells r2)) := (by rw [hn7]; exact HW6.out)
             clear hn7)
          | (go_at_call 21
             (with_reducible refine (noted_any (.slice a6 r2.length c6') r2 4 EI (w.heap.size + 2) w7 HW7.out (by omega) S7.out.room).mono ?_)
             rintro e w8 ⟨v8, rfl, hrow8, hb8⟩
             rw [HR3.out] at hrow8
             have S8 := Lib.hid (S7.out.step (Nat.le_refl _) hb8)
             have HW8 := Lib.hid hrow8
             obtain ⟨a8, c8', rfl⟩ := (Own.Row.of hrow8).form
             obtain ⟨-, c81, c82, c83, c84, c85⟩ := S8.out.box.cells
             have c80 := S8.out.box.cells'
             obtain ⟨d80, d81, d82, d83, d84⟩ := S8.out.spec.cells
             clear hrow8)
          | (go_at_call 26
             (with_reducible refine (HSO.out _ (HV.out.below S8.out.below) (HK.out.below S8.out.below) (HA.out.below S8.out.below)).mono ?_)
             rintro e w9 ⟨v9, rfl, hrow9, hb9⟩
             have S9 := Lib.hid (S8.out.step S8.out.room hb9)
             have HW9 := Lib.hid (row_keep HW8.out hb9 (Nat.le_refl _))
             have HST := Lib.hid (Strs.of_row hrow9)
             obtain ⟨a9, c9', rfl⟩ := hrow9.form
             clear hrow9)
          | (go_at_call 25
             (with_reducible refine (HDI.out _ _ (HB.out.below S9.out.below) HST.out).mono ?_)
             rintro e w10 ⟨rfl, n10, hn10⟩
             have S10 : Hid (St w (.slice (some ⟨g, 0, none⟩) 256 c) (.slice ka ks.length kc) ⟨ks, sep, fl, false, st⟩ w10) := (by rw [hn10]; exact S9.out.drewN n10)
             have HW10 : Hid (w10.ownsRow (w.heap.size + 2) 60 2 (.slice a8 0 c8') (List.length (α := Int × Int) []) (rcells [])) := (by rw [hn10]; exact HW9.out)
             clear hn10)
          | (go_at_call 21
             (with_reducible refine (noted_any (.slice a8 0 c8') [] 5 DF (w.heap.size + 2) w10 HW10.out (by simp) S10.out.room).mono ?_)
             rintro e w11 ⟨v11, rfl, hrow11, hb11⟩
             have S11 := Lib.hid (S10.out.step (Nat.le_refl _) hb11)
             have HW11 := Lib.hid hrow11
             obtain ⟨a11, c11', rfl⟩ := (Own.Row.of hrow11).form
             clear hrow11))
        go_ret
        rw [HR0.out]
        exact ⟨_, rfl, KRefCmp.ownsRow_mono HW11.out (by omega), S11.out.below⟩
      · have HR0 : Hid (R = rh :: rt) := by show _ = _; rw [HR.out]; exact if_neg (by simp)
        simp only [List.length_cons] at *
        have hnz : (((rt.length + 1 : Nat) : Int) == 0) = false := by
          have : ((rt.length + 1 : Nat) : Int) ≠ 0 := by omega
          simpa using this
        have hnz2 : ((rt.length : Int) + 1 == 0) = false := by
          have : (rt.length : Int) + 1 ≠ 0 := by omega
          simpa using this
        go_enter Tryz.func9, Tryz.ntmps9
        go_wp2_with (first
          | (go_at_call 20
             (with_reducible refine (HCK.out _ (HK.out.below HB1.out)).mono ?_)
             rintro e w2 ⟨rfl, hb2⟩
             have HB2 := Lib.hid (below_step HB1.out hb2)
             have hbx : Box w2 w.heap.size (.slice (some ⟨g, 0, none⟩) 256 c) := (hb2.block _ (by simp <;> omega)).trans ((Below.heap_alloc _ _ _ (by simp)).trans (heap_alloc_new w _))
             have hsx : SBox w2 (w.heap.size + 1) (.slice ka ks.length kc) ⟨ks, sep, fl, false, st⟩ := (hb2.block _ (by simp)).trans (alloc2 w _ _)
             have S2 : Hid (St w (.slice (some ⟨g, 0, none⟩) 256 c) (.slice ka ks.length kc) ⟨ks, sep, fl, false, st⟩ w2) := ⟨hbx, hsx, HB2.out⟩
             obtain ⟨-, c21, c22, c23, c24, c25⟩ := S2.out.box.cells
             have c20 := S2.out.box.cells'
             obtain ⟨d20, d21, d22, d23, d24⟩ := S2.out.spec.cells
             clear hbx hsx)
          | (go_at_call 22
             (with_reducible refine (HUN.out _ (HV.out.below HB2.out) (HK.out.below HB2.out) (HB.out.below HB2.out)).mono ?_)
             rintro e w3 ⟨rfl, hb3⟩
             have S3 := Lib.hid (S2.out.step S2.out.room hb3))
          | (go_at_call 21
             (with_reducible refine (noted_any (.slice none 0 0) [] 2 U (w.heap.size + 2) w3 (nil_row _ _) (by simp) S3.out.room).mono ?_)
             rintro e w4 ⟨v4, rfl, hrow4, hb4⟩
             rw [HR1.out] at hrow4
             have S4 := Lib.hid (S3.out.step (Nat.le_refl _) hb4)
             have HW4 := Lib.hid hrow4
             obtain ⟨a4, c4', rfl⟩ := (Own.Row.of hrow4).form
             clear hrow4)
          | (go_at_call_of 23 (Value.slice ab ys.length cb)
             (with_reducible refine (HEO.out _ (HB.out.below S4.out.below) (HA.out.below S4.out.below)).mono ?_)
             rintro e w5 ⟨rfl, n5, hn5⟩
             have S5 : Hid (St w (.slice (some ⟨g, 0, none⟩) 256 c) (.slice ka ks.length kc) ⟨ks, sep, fl, false, st⟩ w5) := (by rw [hn5]; exact S4.out.drewN n5)
             have HW5 : Hid (w5.ownsRow (w.heap.size + 2) 60 2 (.slice a4 r1.length c4') r1.length (rcells r1)) := (by rw [hn5]; exact HW4.out)
             clear hn5)
          | (go_at_call 21
             (with_reducible refine (noted_any (.slice a4 r1.length c4') r1 3 EO (w.heap.size + 2) w5 HW5.out (by omega) S5.out.room).mono ?_)
             rintro e w6 ⟨v6, rfl, hrow6, hb6⟩
             rw [HR2.out] at hrow6
             have S6 := Lib.hid (S5.out.step (Nat.le_refl _) hb6)
             have HW6 := Lib.hid hrow6
             obtain ⟨a6, c6', rfl⟩ := (Own.Row.of hrow6).form
             obtain ⟨-, c61, c62, c63, c64, c65⟩ := S6.out.box.cells
             have c60 := S6.out.box.cells'
             obtain ⟨d60, d61, d62, d63, d64⟩ := S6.out.spec.cells
             clear hrow6)
          | (go_at_call_of 23 (Value.slice aa xs.length ca)
             (with_reducible refine (HEI.out _ (HA.out.below S6.out.below) (HB.out.below S6.out.below)).mono ?_)
             rintro e w7 ⟨rfl, n7, hn7⟩
             have S7 : Hid (St w (.slice (some ⟨g, 0, none⟩) 256 c) (.slice ka ks.length kc) ⟨ks, sep, fl, false, st⟩ w7) := (by rw [hn7]; exact S6.out.drewN n7)
             have HW7 : Hid (w7.ownsRow (w.heap.size + 2) 60 2 (.slice a6 r2.length c6') r2.length (rcells r2)) := (by rw [hn7]; exact HW6.out)
             clear hn7)
          | (go_at_call 21
             (with_reducible refine (noted_any (.slice a6 r2.length c6') r2 4 EI (w.heap.size + 2) w7 HW7.out (by omega) S7.out.room).mono ?_)
             rintro e w8 ⟨v8, rfl, hrow8, hb8⟩
             rw [HR3.out] at hrow8
             have S8 := Lib.hid (S7.out.step (Nat.le_refl _) hb8)
             have HW8 := Lib.hid hrow8
             obtain ⟨a8, c8', rfl⟩ := (Own.Row.of hrow8).form
             obtain ⟨-, c81, c82, c83, c84, c85⟩ := S8.out.box.cells
             have c80 := S8.out.box.cells'
             obtain ⟨d80, d81, d82, d83, d84⟩ := S8.out.spec.cells
             clear hrow8))
        go_ret
        rw [HR0.out]
        exact ⟨_, rfl, KRefCmp.ownsRow_mono HW8.out (by omega), S8.out.below⟩
    | true =>
      have HM : Hid (M = L) := HMI.out
      rw [HM.out] at HR3
      clear HM HMI
      rcases r3 with _ | ⟨rh, rt⟩
      · have HR0 : Hid (R = noted [] 5 DF) := by show _ = _; rw [HR.out]; exact if_pos rfl
        simp only [List.length_nil] at *
        go_enter Tryz.func9, Tryz.ntmps9
        go_wp2_with (first
          | (go_at_call 20
             (with_reducible refine (HCK.out _ (HK.out.below HB1.out)).mono ?_)
             rintro e w2 ⟨rfl, hb2⟩
             have HB2 := Lib.hid (below_step HB1.out hb2)
             have hbx : Box w2 w.heap.size (.slice (some ⟨g, 0, none⟩) 256 c) := (hb2.block _ (by simp <;> omega)).trans ((Below.heap_alloc _ _ _ (by simp)).trans (heap_alloc_new w _))
             have hsx : SBox w2 (w.heap.size + 1) (.slice ka ks.length kc) ⟨ks, sep, fl, true, st⟩ := (hb2.block _ (by simp)).trans (alloc2 w _ _)
             have S2 : Hid (St w (.slice (some ⟨g, 0, none⟩) 256 c) (.slice ka ks.length kc) ⟨ks, sep, fl, true, st⟩ w2) := ⟨hbx, hsx, HB2.out⟩
             obtain ⟨-, c21, c22, c23, c24, c25⟩ := S2.out.box.cells
             have c20 := S2.out.box.cells'
             obtain ⟨d20, d21, d22, d23, d24⟩ := S2.out.spec.cells
             clear hbx hsx)
          | (go_at_call 22
             (with_reducible refine (HUN.out _ (HV.out.below HB2.out) (HK.out.below HB2.out) (HB.out.below HB2.out)).mono ?_)
             rintro e w3 ⟨rfl, hb3⟩
             have S3 := Lib.hid (S2.out.step S2.out.room hb3))
          | (go_at_call 21
             (with_reducible refine (noted_any (.slice none 0 0) [] 2 U (w.heap.size + 2) w3 (nil_row _ _) (by simp) S3.out.room).mono ?_)
             rintro e w4 ⟨v4, rfl, hrow4, hb4⟩
             rw [HR1.out] at hrow4
             have S4 := Lib.hid (S3.out.step (Nat.le_refl _) hb4)
             have HW4 := Lib.hid hrow4
             obtain ⟨a4, c4', rfl⟩ := (Own.Row.of hrow4).form
             clear hrow4)
          | (go_at_call_of 23 (Value.slice ab ys.length cb)
             (with_reducible refine (HEO.out _ (HB.out.below S4.out.below) (HA.out.below S4.out.below)).mono ?_)
             rintro e w5 ⟨rfl, n5, hn5⟩
             have S5 : Hid (St w (.slice (some ⟨g, 0, none⟩) 256 c) (.slice ka ks.length kc) ⟨ks, sep, fl, true, st⟩ w5) := (by rw [hn5]; exact S4.out.drewN n5)
             have HW5 : Hid (w5.ownsRow (w.heap.size + 2) 60 2 (.slice a4 r1.length c4') r1.length (rcells r1)) := (by rw [hn5]; exact HW4.out)
             clear hn5)
          | (go_at_call 21
             (with_reducible refine (noted_any (.slice a4 r1.length c4') r1 3 EO (w.heap.size + 2) w5 HW5.out (by omega) S5.out.room).mono ?_)
             rintro e w6 ⟨v6, rfl, hrow6, hb6⟩
             rw [HR2.out] at hrow6
             have S6 := Lib.hid (S5.out.step (Nat.le_refl _) hb6)
             have HW6 := Lib.hid hrow6
             obtain ⟨a6, c6', rfl⟩ := (Own.Row.of hrow6).form
             obtain ⟨-, c61, c62, c63, c64, c65⟩ := S6.out.box.cells
             have c60 := S6.out.box.cells'
             obtain ⟨d60, d61, d62, d63, d64⟩ := S6.out.spec.cells
             clear hrow6)
          | (go_at_call 24
             (with_reducible refine (HLO.out _ (HV.out.below S6.out.below) (HK.out.below S6.out.below) (HA.out.below S6.out.below) (HB.out.below S6.out.below)).mono ?_)
             rintro e w7 ⟨rfl, hb7⟩
             have S7 := Lib.hid (S6.out.step S6.out.room hb7)
             have HW7 := Lib.hid (row_keep HW6.out hb7 (Nat.le_refl _)))
          | (go_at_call 21
             (with_reducible refine (noted_any (.slice a6 r2.length c6') r2 4 L (w.heap.size + 2) w7 HW7.out (by omega) S7.out.room).mono ?_)
             rintro e w8 ⟨v8, rfl, hrow8, hb8⟩
             rw [HR3.out] at hrow8
             have S8 := Lib.hid (S7.out.step (Nat.le_refl _) hb8)
             have HW8 := Lib.hid hrow8
             obtain ⟨a8, c8', rfl⟩ := (Own.Row.of hrow8).form
             obtain ⟨-, c81, c82, c83, c84, c85⟩ := S8.out.box.cells
             have c80 := S8.out.box.cells'
             obtain ⟨d80, d81, d82, d83, d84⟩ := S8.out.spec.cells
             clear hrow8)
          | (go_at_call 26
             (with_reducible refine (HSO.out _ (HV.out.below S8.out.below) (HK.out.below S8.out.below) (HA.out.below S8.out.below)).mono ?_)
             rintro e w9 ⟨v9, rfl, hrow9, hb9⟩
             have S9 := Lib.hid (S8.out.step S8.out.room hb9)
             have HW9 := Lib.hid (row_keep HW8.out hb9 (Nat.le_refl _))
             have HST := Lib.hid (Strs.of_row hrow9)
             obtain ⟨a9, c9', rfl⟩ := hrow9.form
             clear hrow9)
          | (go_at_call 25
             (with_reducible refine (HDI.out _ _ (HB.out.below S9.out.below) HST.out).mono ?_)
             rintro e w10 ⟨rfl, n10, hn10⟩
             have S10 : Hid (St w (.slice (some ⟨g, 0, none⟩) 256 c) (.slice ka ks.length kc) ⟨ks, sep, fl, true, st⟩ w10) := (by rw [hn10]; exact S9.out.drewN n10)
             have HW10 : Hid (w10.ownsRow (w.heap.size + 2) 60 2 (.slice a8 0 c8') (List.length (α := Int × Int) []) (rcells [])) := (by rw [hn10]; exact HW9.out)
             clear hn10)
          | (go_at_call 21
             (with_reducible refine (noted_any (.slice a8 0 c8') [] 5 DF (w.heap.size + 2) w10 HW10.out (by simp) S10.out.room).mono ?_)
             rintro e w11 ⟨v11, rfl, hrow11, hb11⟩
             have S11 := Lib.hid (S10.out.step (Nat.le_refl _) hb11)
             have HW11 := Lib.hid hrow11
             obtain ⟨a11, c11', rfl⟩ := (Own.Row.of hrow11).form
             clear hrow11))
        go_ret
        rw [HR0.out]
        exact ⟨_, rfl, KRefCmp.ownsRow_mono HW11.out (by omega), S11.out.below⟩
      · have HR0 : Hid (R = rh :: rt) := by show _ = _; rw [HR.out]; exact if_neg (by simp)
        simp only [List.length_cons] at *
        have hnz : (((rt.length + 1 : Nat) : Int) == 0) = false := by
          have : ((rt.length + 1 : Nat) : Int) ≠ 0 := by omega
          simpa using this
        have hnz2 : ((rt.length : Int) + 1 == 0) = false := by
          have : (rt.length : Int) + 1 ≠ 0 := by omega
          simpa using this
        go_enter Tryz.func9, Tryz.ntmps9
        go_wp2_with (first
          | (go_at_call 20
             (with_reducible refine (HCK.out _ (HK.out.below HB1.out)).mono ?_)
             rintro e w2 ⟨rfl, hb2⟩
             have HB2 := Lib.hid (below_step HB1.out hb2)
             have hbx : Box w2 w.heap.size (.slice (some ⟨g, 0, none⟩) 256 c) := (hb2.block _ (by simp <;> omega)).trans ((Below.heap_alloc _ _ _ (by simp)).trans (heap_alloc_new w _))
             have hsx : SBox w2 (w.heap.size + 1) (.slice ka ks.length kc) ⟨ks, sep, fl, true, st⟩ := (hb2.block _ (by simp)).trans (alloc2 w _ _)
             have S2 : Hid (St w (.slice (some ⟨g, 0, none⟩) 256 c) (.slice ka ks.length kc) ⟨ks, sep, fl, true, st⟩ w2) := ⟨hbx, hsx, HB2.out⟩
             obtain ⟨-, c21, c22, c23, c24, c25⟩ := S2.out.box.cells
             have c20 := S2.out.box.cells'
             obtain ⟨d20, d21, d22, d23, d24⟩ := S2.out.spec.cells
             clear hbx hsx)
          | (go_at_call 22
             (with_reducible refine (HUN.out _ (HV.out.below HB2.out) (HK.out.below HB2.out) (HB.out.below HB2.out)).mono ?_)
             rintro e w3 ⟨rfl, hb3⟩
             have S3 := Lib.hid (S2.out.step S2.out.room hb3))
          | (go_at_call 21
             (with_reducible refine (noted_any (.slice none 0 0) [] 2 U (w.heap.size + 2) w3 (nil_row _ _) (by simp) S3.out.room).mono ?_)
             rintro e w4 ⟨v4, rfl, hrow4, hb4⟩
             rw [HR1.out] at hrow4
             have S4 := Lib.hid (S3.out.step (Nat.le_refl _) hb4)
             have HW4 := Lib.hid hrow4
             obtain ⟨a4, c4', rfl⟩ := (Own.Row.of hrow4).form
             clear hrow4)
          | (go_at_call_of 23 (Value.slice ab ys.length cb)
             (with_reducible refine (HEO.out _ (HB.out.below S4.out.below) (HA.out.below S4.out.below)).mono ?_)
             rintro e w5 ⟨rfl, n5, hn5⟩
             have S5 : Hid (St w (.slice (some ⟨g, 0, none⟩) 256 c) (.slice ka ks.length kc) ⟨ks, sep, fl, true, st⟩ w5) := (by rw [hn5]; exact S4.out.drewN n5)
             have HW5 : Hid (w5.ownsRow (w.heap.size + 2) 60 2 (.slice a4 r1.length c4') r1.length (rcells r1)) := (by rw [hn5]; exact HW4.out)
             clear hn5)
          | (go_at_call 21
             (with_reducible refine (noted_any (.slice a4 r1.length c4') r1 3 EO (w.heap.size + 2) w5 HW5.out (by omega) S5.out.room).mono ?_)
             rintro e w6 ⟨v6, rfl, hrow6, hb6⟩
             rw [HR2.out] at hrow6
             have S6 := Lib.hid (S5.out.step (Nat.le_refl _) hb6)
             have HW6 := Lib.hid hrow6
             obtain ⟨a6, c6', rfl⟩ := (Own.Row.of hrow6).form
             obtain ⟨-, c61, c62, c63, c64, c65⟩ := S6.out.box.cells
             have c60 := S6.out.box.cells'
             obtain ⟨d60, d61, d62, d63, d64⟩ := S6.out.spec.cells
             clear hrow6)
          | (go_at_call 24
             (with_reducible refine (HLO.out _ (HV.out.below S6.out.below) (HK.out.below S6.out.below) (HA.out.below S6.out.below) (HB.out.below S6.out.below)).mono ?_)
             rintro e w7 ⟨rfl, hb7⟩
             have S7 := Lib.hid (S6.out.step S6.out.room hb7)
             have HW7 := Lib.hid (row_keep HW6.out hb7 (Nat.le_refl _)))
          | (go_at_call 21
             (with_reducible refine (noted_any (.slice a6 r2.length c6') r2 4 L (w.heap.size + 2) w7 HW7.out (by omega) S7.out.room).mono ?_)
             rintro e w8 ⟨v8, rfl, hrow8, hb8⟩
             rw [HR3.out] at hrow8
             have S8 := Lib.hid (S7.out.step (Nat.le_refl _) hb8)
             have HW8 := Lib.hid hrow8
             obtain ⟨a8, c8', rfl⟩ := (Own.Row.of hrow8).form
             obtain ⟨-, c81, c82, c83, c84, c85⟩ := S8.out.box.cells
             have c80 := S8.out.box.cells'
             obtain ⟨d80, d81, d82, d83, d84⟩ := S8.out.spec.cells
             clear hrow8))
        go_ret
        rw [HR0.out]
        exact ⟨_, rfl, KRefCmp.ownsRow_mono HW8.out (by omega), S8.out.below⟩
  · have h0b : (check p == 0) = false := by simpa using h0
    have HR := Lib.hid (HBAD.out h0)
    clear HBAD HGOOD hfx hfy
    obtain ⟨g, c, rfl, hgc, hcell⟩ := hv
    obtain ⟨ka, kc, rfl, -⟩ := hk
    clear hcell
    obtain ⟨ks, sep, fl, uq, st⟩ := p
    unfold posix specVal at *
    simp only at *
    generalize reps (⟨ks, sep, fl, uq, st⟩ : SortSpec) xs ys = R at *
    generalize check (⟨ks, sep, fl, uq, st⟩ : SortSpec) = CK at *
    have hb1 := ((Below.refl w.heap.size w).alloc (Nat.le_refl _) (.cells #[.string ⟨#[112, 111, 115, 105, 120]⟩, .slice (some ⟨g, 0, none⟩) 256 c, .string ⟨lowT.toArray⟩, .string ⟨upT.toArray⟩, .slice none 0 0, .slice none 0 0] 37)).alloc (by simp) (.cells #[.slice ka ks.length kc, .int .i64 sep, .int .i64 fl, .bool uq, .bool st] 24)
    have HB1 := Lib.hid hb1
    clear hb1
    go_enter Tryz.func9, Tryz.ntmps9
    go_wp2_with (go_at_call 20; (with_reducible refine (HCK.out _ (HK.out.below HB1.out)).mono ?_); rintro e w2 ⟨rfl, hb2⟩)
    have HB2 := Lib.hid (below_step HB1.out hb2)
    go_ret
    rw [HR.out]
    exact ⟨_, rfl, bad_row _ _ HB2.out.size, HB2.out.alloc HB2.out.size _⟩
end Go.Proofs.YtkekpiillbpciaaGreatDoor.KSorted

/- The reports about sorted lines: what the program's Sorted returns. At most 65536 lines of at most 65536 bytes. -/
namespace Go.Proofs.YtkekpiillbpciaaGreatDoor.KSorted
open Go Go.RowKit KeyMath KeyVals ScanMath Strs KLoc KRefCmp KSpec KEnv SortMath KMerge KSame KEach
set_option maxRecDepth 100000
set_option maxHeartbeats 16000000 in
theorem sorted_any (v sv : Value) (p : SortSpec) (xs ys : List Str) (a b : Value) (w : World) (hv : Wts w v) (hk : Keys w sv p.keys) (hx : xs.length ≤ 65536) (hy : ys.length ≤ 65536) (hfx : Fit xs) (hfy : Fit ys) (ha : Strs w a xs) (hb : Strs w b ys) :
    Calls Tryz.prog 7 #[.agg #[posix, v, .string ⟨lowT.toArray⟩, .string ⟨upT.toArray⟩, .slice none 0 0, .slice none 0 0], specVal sv p, a, b] w (RPost w (reps p xs ys)) := by
  have HBAD := Lib.hid (fun h => @reps_bad p xs ys h)
  have HGOOD := Lib.hid (fun h => @reps_good p xs ys h)
  have HV := Lib.hid hv
  have HK := Lib.hid hk
  have HA := Lib.hid ha
  have HB := Lib.hid hb
  obtain ⟨aa, ca, rfl, -⟩ := strs_form ha
  obtain ⟨ab, cb, rfl, -⟩ := strs_form hb
  clear ha hb
  have HCK := Lib.hid (fun W (hW : Keys W sv p.keys) => KCheck.check_any sv p W hW)
  by_cases h0 : check p = 0
  · rw [h0] at HCK
    have HUN := Lib.hid (fun W hW hK hS => KUnsorted.unsorted_any v sv p ys (.slice ab ys.length cb) W hW hK h0 hfy hS)
    have HEO := Lib.hid (fun W hA hB => KExcess.excess_any (.slice ab ys.length cb) (.slice aa xs.length ca) ys xs W hy hx hfy hfx hA hB)
    have HMS := Lib.hid (fun W hW hK hA hB => KIndex.missing_any v sv p xs ys (.slice aa xs.length ca) (.slice ab ys.length cb) W hW hK h0 hx hy hfx hfy hA hB)
    have HSO := Lib.hid (fun W hW hK hA => sort_any sv v p xs (.slice aa xs.length ca) W hW hK h0 hx hfx hA)
    have HDI := Lib.hid (fun u W hB hS => KDiffer.differs_any (.slice ab ys.length cb) u ys (sort p xs) W hB hS)
    have HSL := (sort_fit p xs hfx).2
    have HR := Lib.hid (HGOOD.out h0)
    clear HBAD HGOOD h0 hfx hfy
    obtain ⟨g, c, rfl, hgc, hcell⟩ := hv
    obtain ⟨ka, kc, rfl, -⟩ := hk
    clear hcell
    obtain ⟨ks, sep, fl, uq, st⟩ := p
    unfold posix specVal at *
    simp only at *
    generalize reps (⟨ks, sep, fl, uq, st⟩ : SortSpec) xs ys = R at *
    generalize unsorted (⟨ks, sep, fl, uq, st⟩ : SortSpec) ys = U at *
    generalize missing (⟨ks, sep, fl, uq, st⟩ : SortSpec) xs ys = M at *
    generalize extra ys xs = EO at *
    generalize KeyMath.differ ys (sort (⟨ks, sep, fl, uq, st⟩ : SortSpec) xs) = DF at *
    generalize sort (⟨ks, sep, fl, uq, st⟩ : SortSpec) xs = SO at *
    have hb1 := ((Below.refl w.heap.size w).alloc (Nat.le_refl _) (.cells #[.string ⟨#[112, 111, 115, 105, 120]⟩, .slice (some ⟨g, 0, none⟩) 256 c, .string ⟨lowT.toArray⟩, .string ⟨upT.toArray⟩, .slice none 0 0, .slice none 0 0] 37)).alloc (by simp) (.cells #[.slice ka ks.length kc, .int .i64 sep, .int .i64 fl, .bool uq, .bool st] 24)
    have HB1 := Lib.hid hb1
    clear hb1
    have n1 : (noted [] 2 U).length ≤ 1 := noted_len [] 2 U
    have n2 : (noted (noted [] 2 U) 3 EO).length ≤ 2 := Nat.le_trans (noted_len _ _ _) (by omega)
    have n3 : (noted (noted (noted [] 2 U) 3 EO) 4 M).length ≤ 3 := Nat.le_trans (noted_len _ _ _) (by omega)
    generalize hr1 : noted [] 2 U = r1 at *
    generalize hr2 : noted r1 3 EO = r2 at *
    generalize hr3 : noted r2 4 M = r3 at *
    have HR1 := Lib.hid hr1
    have HR2 := Lib.hid hr2
    have HR3 := Lib.hid hr3
    clear hr1 hr2 hr3
    rcases r3 with _ | ⟨rh, rt⟩
    · have HR0 : Hid (R = noted [] 5 DF) := by show _ = _; rw [HR.out]; exact if_pos rfl
      simp only [List.length_nil] at *
      go_enter Tryz.func7, Tryz.ntmps7
      go_wp2_with (first
        | (go_at_call 13
           (with_reducible refine (HCK.out _ (HK.out.below HB1.out)).mono ?_)
           rintro e w2 ⟨rfl, hb2⟩
           have HB2 := Lib.hid (below_step HB1.out hb2)
           have hbx : Box w2 w.heap.size (.slice (some ⟨g, 0, none⟩) 256 c) := (hb2.block _ (by simp <;> omega)).trans ((Below.heap_alloc _ _ _ (by simp)).trans (heap_alloc_new w _))
           have hsx : SBox w2 (w.heap.size + 1) (.slice ka ks.length kc) ⟨ks, sep, fl, uq, st⟩ := (hb2.block _ (by simp)).trans (alloc2 w _ _)
           have S2 : Hid (St w (.slice (some ⟨g, 0, none⟩) 256 c) (.slice ka ks.length kc) ⟨ks, sep, fl, uq, st⟩ w2) := ⟨hbx, hsx, HB2.out⟩
           obtain ⟨-, c21, c22, c23, c24, c25⟩ := S2.out.box.cells
           have c20 := S2.out.box.cells'
           obtain ⟨d20, d21, d22, d23, d24⟩ := S2.out.spec.cells
           have hl2 := S2.out.spec.lt
           have hl1 := S2.out.box.lt
           have HS2 : Hid (w.heap.size + 2 ≤ w2.heap.size) := hl2
           have S3 : Hid (St w (.slice (some ⟨g, 0, none⟩) 256 c) (.slice ka ks.length kc) ⟨ks, sep, fl, uq, st⟩ (w2.alloc (.cells #[.slice none 0 0] 63))) := S2.out.step (Nat.le_refl _) ((Below.refl _ _).alloc hl2 _)
           have HP3 : Hid (Rep1 (w2.alloc (.cells #[.slice none 0 0] 63)) w2.heap.size (.slice none 0 0)) := heap_alloc_new w2 _
           have hs3 : w2.heap.size + 1 ≤ (w2.alloc (.cells #[.slice none 0 0] 63)).heap.size := (by simp)
           have HW3 : Hid ((w2.alloc (.cells #[.slice none 0 0] 63)).ownsRow (w2.heap.size + 1) 60 2 (.slice none 0 0) (List.length (α := Int × Int) []) (rcells [])) := nil_row _ _
           clear hbx hsx)
        | (go_at_call 15
           (with_reducible refine (HUN.out _ (HV.out.below S3.out.below) (HK.out.below S3.out.below) (HB.out.below S3.out.below)).mono ?_)
           rintro e w4 ⟨rfl, hb4⟩
           have S4 := Lib.hid (S3.out.step S3.out.room hb4)
           have HP4 : Hid (Rep1 w4 w2.heap.size (.slice none 0 0)) := (hb4.block _ HP3.out.cell.2.2).trans HP3.out
           have HW4 := Lib.hid (row_keep HW3.out hb4 (Nat.le_refl _))
           have hs4 : w2.heap.size + 1 ≤ w4.heap.size := Nat.le_trans hs3 hb4.size)
        | (go_at_call 14
           (with_reducible refine (add_any (.slice none 0 0) [] 2 U w2.heap.size (w2.heap.size + 1) w4 HP4.out HW4.out (Nat.lt_succ_self _) hs4 (by simp)).mono ?_)
           rintro e w5 ⟨rfl, ⟨v5, hp5, hrow5⟩, had5⟩
           rw [HR1.out] at hrow5
           have S5 := Lib.hid (S4.out.step HS2.out (Adds.toBelow had5 (Nat.le_refl _) (Nat.le_succ _)))
           have hs5 : w2.heap.size + 1 ≤ w5.heap.size := Nat.le_trans hs4 had5.size
           obtain ⟨a5, c5', rfl⟩ := (Own.Row.of hrow5).form
           have HW5 := Lib.hid hrow5
           have HP5 := Lib.hid hp5
           skip
           clear hrow5 hp5 had5)
        | (go_at_call 16
           (with_reducible refine (HEO.out _ (HB.out.below S5.out.below) (HA.out.below S5.out.below)).mono ?_)
           rintro e w6 ⟨rfl, hb6⟩
           have S6 := Lib.hid (S5.out.step S5.out.room hb6)
           have HP6 : Hid (Rep1 w6 w2.heap.size (.slice a5 r1.length c5')) := (hb6.block _ HP5.out.cell.2.2).trans HP5.out
           have HW6 := Lib.hid (row_keep HW5.out hb6 (Nat.le_refl _))
           have hs6 : w2.heap.size + 1 ≤ w6.heap.size := Nat.le_trans hs5 hb6.size)
        | (go_at_call 14
           (with_reducible refine (add_any (.slice a5 r1.length c5') r1 3 EO w2.heap.size (w2.heap.size + 1) w6 HP6.out HW6.out (Nat.lt_succ_self _) hs6 (by omega)).mono ?_)
           rintro e w7 ⟨rfl, ⟨v7, hp7, hrow7⟩, had7⟩
           rw [HR2.out] at hrow7
           have S7 := Lib.hid (S6.out.step HS2.out (Adds.toBelow had7 (Nat.le_refl _) (Nat.le_succ _)))
           have hs7 : w2.heap.size + 1 ≤ w7.heap.size := Nat.le_trans hs6 had7.size
           obtain ⟨a7, c7', rfl⟩ := (Own.Row.of hrow7).form
           have HW7 := Lib.hid hrow7
           have HP7 := Lib.hid hp7
           obtain ⟨-, c71, c72, c73, c74, c75⟩ := S7.out.box.cells
           have c70 := S7.out.box.cells'
           obtain ⟨d70, d71, d72, d73, d74⟩ := S7.out.spec.cells
           clear hrow7 hp7 had7)
        | (go_at_call 17
           (with_reducible refine (HMS.out _ (HV.out.below S7.out.below) (HK.out.below S7.out.below) (HA.out.below S7.out.below) (HB.out.below S7.out.below)).mono ?_)
           rintro e w8 ⟨rfl, hb8⟩
           have S8 := Lib.hid (S7.out.step S7.out.room hb8)
           have HP8 : Hid (Rep1 w8 w2.heap.size (.slice a7 r2.length c7')) := (hb8.block _ HP7.out.cell.2.2).trans HP7.out
           have HW8 := Lib.hid (row_keep HW7.out hb8 (Nat.le_refl _))
           have hs8 : w2.heap.size + 1 ≤ w8.heap.size := Nat.le_trans hs7 hb8.size)
        | (go_at_call 14
           (with_reducible refine (add_any (.slice a7 r2.length c7') r2 4 M w2.heap.size (w2.heap.size + 1) w8 HP8.out HW8.out (Nat.lt_succ_self _) hs8 (by omega)).mono ?_)
           rintro e w9 ⟨rfl, ⟨v9, hp9, hrow9⟩, had9⟩
           rw [HR3.out] at hrow9
           have S9 := Lib.hid (S8.out.step HS2.out (Adds.toBelow had9 (Nat.le_refl _) (Nat.le_succ _)))
           have hs9 : w2.heap.size + 1 ≤ w9.heap.size := Nat.le_trans hs8 had9.size
           obtain ⟨a9, c9', rfl⟩ := (Own.Row.of hrow9).form
           have HW9 := Lib.hid hrow9
           have HP9 := Lib.hid hp9
           obtain ⟨-, c91, c92, c93, c94, c95⟩ := S9.out.box.cells
           have c90 := S9.out.box.cells'
           obtain ⟨d90, d91, d92, d93, d94⟩ := S9.out.spec.cells
           have hp90 := HP9.out.cell.1
           clear hrow9 hp9 had9)
        | (go_at_call 19
           (with_reducible refine (HSO.out _ (HV.out.below S9.out.below) (HK.out.below S9.out.below) (HA.out.below S9.out.below)).mono ?_)
           rintro e w10 ⟨v10, rfl, hrow10, hb10⟩
           have HST := Lib.hid (Strs.of_row hrow10)
           have S10 := Lib.hid (S9.out.step S9.out.room hb10)
           have HP10 : Hid (Rep1 w10 w2.heap.size (.slice a9 0 c9')) := (hb10.block _ HP9.out.cell.2.2).trans HP9.out
           have HW10 := Lib.hid (row_keep HW9.out hb10 (Nat.le_refl _))
           have hs10 : w2.heap.size + 1 ≤ w10.heap.size := Nat.le_trans hs9 hb10.size
           obtain ⟨a10, c10', rfl⟩ := hrow10.form
           clear hrow10)
        | (go_at_call 18
           (with_reducible refine (HDI.out _ _ (HB.out.below S10.out.below) HST.out).mono ?_)
           rintro e w11 ⟨rfl, n11, hn11⟩
           have S11 : Hid (St w (.slice (some ⟨g, 0, none⟩) 256 c) (.slice ka ks.length kc) ⟨ks, sep, fl, uq, st⟩ w11) := (by rw [hn11]; exact S10.out.drewN n11)
           have HP11 : Hid (Rep1 w11 w2.heap.size (.slice a9 0 c9')) := (by rw [hn11]; exact HP10.out)
           have HW11 : Hid (w11.ownsRow (w2.heap.size + 1) 60 2 (.slice a9 0 c9') (List.length (α := Int × Int) []) (rcells [])) := (by rw [hn11]; exact HW10.out)
           have hs11 : w2.heap.size + 1 ≤ w11.heap.size := (by rw [hn11]; exact hs10)
           clear hn11)
        | (go_at_call 14
           (with_reducible refine (add_any (.slice a9 0 c9') [] 5 DF w2.heap.size (w2.heap.size + 1) w11 HP11.out HW11.out (Nat.lt_succ_self _) hs11 (by simp)).mono ?_)
           rintro e w12 ⟨rfl, ⟨v12, hp12, hrow12⟩, had12⟩
           skip
           have S12 := Lib.hid (S11.out.step HS2.out (Adds.toBelow had12 (Nat.le_refl _) (Nat.le_succ _)))
           have hs12 : w2.heap.size + 1 ≤ w12.heap.size := Nat.le_trans hs11 had12.size
           obtain ⟨a12, c12', rfl⟩ := (Own.Row.of hrow12).form
           have HW12 := Lib.hid hrow12
           have HP12 := Lib.hid hp12
           have hp120 := HP12.out.cell.1
           clear hrow12 hp12 had12))
      go_ret
      rw [HR0.out]
      exact ⟨_, rfl, KRefCmp.ownsRow_mono HW12.out (by have := HS2.out; omega), S12.out.below⟩
    · have HR0 : Hid (R = rh :: rt) := by show _ = _; rw [HR.out]; exact if_neg (by simp)
      simp only [List.length_cons] at *
      have hnz : (((rt.length + 1 : Nat) : Int) == 0) = false := by
        have : ((rt.length + 1 : Nat) : Int) ≠ 0 := by omega
        simpa using this
      have hnz2 : ((rt.length : Int) + 1 == 0) = false := by
        have : (rt.length : Int) + 1 ≠ 0 := by omega
        simpa using this
      go_enter Tryz.func7, Tryz.ntmps7
      go_wp2_with (first
        | (go_at_call 13
           (with_reducible refine (HCK.out _ (HK.out.below HB1.out)).mono ?_)
           rintro e w2 ⟨rfl, hb2⟩
           have HB2 := Lib.hid (below_step HB1.out hb2)
           have hbx : Box w2 w.heap.size (.slice (some ⟨g, 0, none⟩) 256 c) := (hb2.block _ (by simp <;> omega)).trans ((Below.heap_alloc _ _ _ (by simp)).trans (heap_alloc_new w _))
           have hsx : SBox w2 (w.heap.size + 1) (.slice ka ks.length kc) ⟨ks, sep, fl, uq, st⟩ := (hb2.block _ (by simp)).trans (alloc2 w _ _)
           have S2 : Hid (St w (.slice (some ⟨g, 0, none⟩) 256 c) (.slice ka ks.length kc) ⟨ks, sep, fl, uq, st⟩ w2) := ⟨hbx, hsx, HB2.out⟩
           obtain ⟨-, c21, c22, c23, c24, c25⟩ := S2.out.box.cells
           have c20 := S2.out.box.cells'
           obtain ⟨d20, d21, d22, d23, d24⟩ := S2.out.spec.cells
           have hl2 := S2.out.spec.lt
           have hl1 := S2.out.box.lt
           have HS2 : Hid (w.heap.size + 2 ≤ w2.heap.size) := hl2
           have S3 : Hid (St w (.slice (some ⟨g, 0, none⟩) 256 c) (.slice ka ks.length kc) ⟨ks, sep, fl, uq, st⟩ (w2.alloc (.cells #[.slice none 0 0] 63))) := S2.out.step (Nat.le_refl _) ((Below.refl _ _).alloc hl2 _)
           have HP3 : Hid (Rep1 (w2.alloc (.cells #[.slice none 0 0] 63)) w2.heap.size (.slice none 0 0)) := heap_alloc_new w2 _
           have hs3 : w2.heap.size + 1 ≤ (w2.alloc (.cells #[.slice none 0 0] 63)).heap.size := (by simp)
           have HW3 : Hid ((w2.alloc (.cells #[.slice none 0 0] 63)).ownsRow (w2.heap.size + 1) 60 2 (.slice none 0 0) (List.length (α := Int × Int) []) (rcells [])) := nil_row _ _
           clear hbx hsx)
        | (go_at_call 15
           (with_reducible refine (HUN.out _ (HV.out.below S3.out.below) (HK.out.below S3.out.below) (HB.out.below S3.out.below)).mono ?_)
           rintro e w4 ⟨rfl, hb4⟩
           have S4 := Lib.hid (S3.out.step S3.out.room hb4)
           have HP4 : Hid (Rep1 w4 w2.heap.size (.slice none 0 0)) := (hb4.block _ HP3.out.cell.2.2).trans HP3.out
           have HW4 := Lib.hid (row_keep HW3.out hb4 (Nat.le_refl _))
           have hs4 : w2.heap.size + 1 ≤ w4.heap.size := Nat.le_trans hs3 hb4.size)
        | (go_at_call 14
           (with_reducible refine (add_any (.slice none 0 0) [] 2 U w2.heap.size (w2.heap.size + 1) w4 HP4.out HW4.out (Nat.lt_succ_self _) hs4 (by simp)).mono ?_)
           rintro e w5 ⟨rfl, ⟨v5, hp5, hrow5⟩, had5⟩
           rw [HR1.out] at hrow5
           have S5 := Lib.hid (S4.out.step HS2.out (Adds.toBelow had5 (Nat.le_refl _) (Nat.le_succ _)))
           have hs5 : w2.heap.size + 1 ≤ w5.heap.size := Nat.le_trans hs4 had5.size
           obtain ⟨a5, c5', rfl⟩ := (Own.Row.of hrow5).form
           have HW5 := Lib.hid hrow5
           have HP5 := Lib.hid hp5
           skip
           clear hrow5 hp5 had5)
        | (go_at_call 16
           (with_reducible refine (HEO.out _ (HB.out.below S5.out.below) (HA.out.below S5.out.below)).mono ?_)
           rintro e w6 ⟨rfl, hb6⟩
           have S6 := Lib.hid (S5.out.step S5.out.room hb6)
           have HP6 : Hid (Rep1 w6 w2.heap.size (.slice a5 r1.length c5')) := (hb6.block _ HP5.out.cell.2.2).trans HP5.out
           have HW6 := Lib.hid (row_keep HW5.out hb6 (Nat.le_refl _))
           have hs6 : w2.heap.size + 1 ≤ w6.heap.size := Nat.le_trans hs5 hb6.size)
        | (go_at_call 14
           (with_reducible refine (add_any (.slice a5 r1.length c5') r1 3 EO w2.heap.size (w2.heap.size + 1) w6 HP6.out HW6.out (Nat.lt_succ_self _) hs6 (by omega)).mono ?_)
           rintro e w7 ⟨rfl, ⟨v7, hp7, hrow7⟩, had7⟩
           rw [HR2.out] at hrow7
           have S7 := Lib.hid (S6.out.step HS2.out (Adds.toBelow had7 (Nat.le_refl _) (Nat.le_succ _)))
           have hs7 : w2.heap.size + 1 ≤ w7.heap.size := Nat.le_trans hs6 had7.size
           obtain ⟨a7, c7', rfl⟩ := (Own.Row.of hrow7).form
           have HW7 := Lib.hid hrow7
           have HP7 := Lib.hid hp7
           obtain ⟨-, c71, c72, c73, c74, c75⟩ := S7.out.box.cells
           have c70 := S7.out.box.cells'
           obtain ⟨d70, d71, d72, d73, d74⟩ := S7.out.spec.cells
           clear hrow7 hp7 had7)
        | (go_at_call 17
           (with_reducible refine (HMS.out _ (HV.out.below S7.out.below) (HK.out.below S7.out.below) (HA.out.below S7.out.below) (HB.out.below S7.out.below)).mono ?_)
           rintro e w8 ⟨rfl, hb8⟩
           have S8 := Lib.hid (S7.out.step S7.out.room hb8)
           have HP8 : Hid (Rep1 w8 w2.heap.size (.slice a7 r2.length c7')) := (hb8.block _ HP7.out.cell.2.2).trans HP7.out
           have HW8 := Lib.hid (row_keep HW7.out hb8 (Nat.le_refl _))
           have hs8 : w2.heap.size + 1 ≤ w8.heap.size := Nat.le_trans hs7 hb8.size)
        | (go_at_call 14
           (with_reducible refine (add_any (.slice a7 r2.length c7') r2 4 M w2.heap.size (w2.heap.size + 1) w8 HP8.out HW8.out (Nat.lt_succ_self _) hs8 (by omega)).mono ?_)
           rintro e w9 ⟨rfl, ⟨v9, hp9, hrow9⟩, had9⟩
           rw [HR3.out] at hrow9
           have S9 := Lib.hid (S8.out.step HS2.out (Adds.toBelow had9 (Nat.le_refl _) (Nat.le_succ _)))
           have hs9 : w2.heap.size + 1 ≤ w9.heap.size := Nat.le_trans hs8 had9.size
           obtain ⟨a9, c9', rfl⟩ := (Own.Row.of hrow9).form
           have HW9 := Lib.hid hrow9
           have HP9 := Lib.hid hp9
           obtain ⟨-, c91, c92, c93, c94, c95⟩ := S9.out.box.cells
           have c90 := S9.out.box.cells'
           obtain ⟨d90, d91, d92, d93, d94⟩ := S9.out.spec.cells
           have hp90 := HP9.out.cell.1
           clear hrow9 hp9 had9))
      go_ret
      rw [HR0.out]
      exact ⟨_, rfl, KRefCmp.ownsRow_mono HW9.out (by have := HS2.out; omega), S9.out.below⟩
  · have h0b : (check p == 0) = false := by simpa using h0
    have HR := Lib.hid (HBAD.out h0)
    clear HBAD HGOOD hfx hfy
    obtain ⟨g, c, rfl, hgc, hcell⟩ := hv
    obtain ⟨ka, kc, rfl, -⟩ := hk
    clear hcell
    obtain ⟨ks, sep, fl, uq, st⟩ := p
    unfold posix specVal at *
    simp only at *
    generalize reps (⟨ks, sep, fl, uq, st⟩ : SortSpec) xs ys = R at *
    generalize check (⟨ks, sep, fl, uq, st⟩ : SortSpec) = CK at *
    have hb1 := ((Below.refl w.heap.size w).alloc (Nat.le_refl _) (.cells #[.string ⟨#[112, 111, 115, 105, 120]⟩, .slice (some ⟨g, 0, none⟩) 256 c, .string ⟨lowT.toArray⟩, .string ⟨upT.toArray⟩, .slice none 0 0, .slice none 0 0] 37)).alloc (by simp) (.cells #[.slice ka ks.length kc, .int .i64 sep, .int .i64 fl, .bool uq, .bool st] 24)
    have HB1 := Lib.hid hb1
    clear hb1
    go_enter Tryz.func7, Tryz.ntmps7
    go_wp2_with (go_at_call 13; (with_reducible refine (HCK.out _ (HK.out.below HB1.out)).mono ?_); rintro e w2 ⟨rfl, hb2⟩)
    have HB2 := Lib.hid (below_step HB1.out hb2)
    go_ret
    rw [HR.out]
    exact ⟨_, rfl, bad_row _ _ HB2.out.size, HB2.out.alloc HB2.out.size _⟩
end Go.Proofs.YtkekpiillbpciaaGreatDoor.KSorted
