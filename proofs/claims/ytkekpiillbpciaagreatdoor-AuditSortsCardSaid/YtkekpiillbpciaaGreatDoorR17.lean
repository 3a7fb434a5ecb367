/- KRefInsert; KRefOnce; KRefSort: merged into one text: lemmas for the walk of the law. No condition. -/
import Derived.Test.YtkekpiillbpciaaGreatDoorR16
import Derived.Test.YtkekpiillbpciaaGreatDoorR15
/- A line that goes into sorted lines: what the reference's insert returns. At most 65536 lines of at most 65536 bytes. -/
namespace Go.Proofs.YtkekpiillbpciaaGreatDoor.KRefSort
open Go Go.RowKit KeyMath KeyVals ScanMath Strs KLoc KRefCmp KSpec KEnv SortMath KMerge
set_option maxRecDepth 100000
theorem refCmp_on (v sv : Value) (p : SortSpec) (x y : Str) (w : World) (hv : Wts w v) (hk : Keys w sv p.keys) (h0 : check p = 0) (hx : x.length ≤ 65536) (hy : y.length ≤ 65536) :
    Calls Tryz.prog 49 #[.agg #[posix, v, .string ⟨lowT.toArray⟩, .string ⟨upT.toArray⟩, .slice none 0 0, .slice none 0 0], specVal sv p, .string ⟨x.toArray⟩, .string ⟨y.toArray⟩] w fun e w' => e = .returned (.int .i64 (KeyMath.compare p x y)) ∧ Below w.heap.size w w' :=
  KRefCompare.refCmp_any sv v p ⟨x.toArray⟩ ⟨y.toArray⟩ w hv hk h0 hx hy
theorem refOrder_on (v sv : Value) (p : SortSpec) (x y : Str) (w : World) (hv : Wts w v) (hk : Keys w sv p.keys) (h0 : check p = 0) (hx : x.length ≤ 65536) (hy : y.length ≤ 65536) :
    Calls Tryz.prog 47 #[.agg #[posix, v, .string ⟨lowT.toArray⟩, .string ⟨upT.toArray⟩, .slice none 0 0, .slice none 0 0], specVal sv p, .string ⟨x.toArray⟩, .string ⟨y.toArray⟩] w fun e w' => e = .returned (.int .i64 (order p x y)) ∧ Below w.heap.size w w' :=
  refOrder_of sv v p ⟨x.toArray⟩ ⟨y.toArray⟩ w hv hk h0 hx hy fun W hW hK => KRefCompare.refCmp_any sv v p _ _ W hW hK h0 hx hy
theorem cells_ne {ls : List Str} (h : cellsOf ls ≠ []) : ls ≠ [] := by intro e; subst e; exact h rfl
set_option maxHeartbeats 16000000 in
theorem insert_any (v sv : Value) (p : SortSpec) (s : List Str) (x : Str) (a : Value) (w : World) (hv : Wts w v) (hk : Keys w sv p.keys) (h0 : check p = 0) (hL : s.length ≤ 65536) (hfit : Fit s) (hx : x.length ≤ 65536) (hsrt : Srt (gt p) s) (ha : Strs w a s) :
    Calls Tryz.prog 50 #[.agg #[posix, v, .string ⟨lowT.toArray⟩, .string ⟨upT.toArray⟩, .slice none 0 0, .slice none 0 0], specVal sv p, a, .string ⟨x.toArray⟩] w (MPost w (ins (gt p) x s)) := by
  obtain ⟨i0, hi, hz0, hz1, hz2⟩ := info_parts str_info
  have HO := Lib.hid (fun y (hy : y.length ≤ 65536) W hW hK => refOrder_on v sv p y x W hW hK h0 hy hx)
  have HIN := Lib.hid (fun k h1 h2 h3 => ins_at (gt_weak p) x s k h1 hsrt h2 h3)
  have HGT : Hid (∀ y, gt p y x = decide (0 < order p y x)) := fun y => rfl
  have HV := Lib.hid hv
  have HK := Lib.hid hk
  have HF := Lib.hid hfit
  obtain ⟨aa, ca, rfl, hca⟩ := strs_form ha
  have HA := Lib.hid ha
  obtain ⟨g, c, rfl, hgc, hcell⟩ := hv
  obtain ⟨ka, kc, rfl, -⟩ := hk
  clear hcell h0 hsrt hfit
  obtain ⟨ks, sep, fl, uq, st⟩ := p
  unfold posix specVal at *
  simp only at *
  generalize ins (gt (⟨ks, sep, fl, uq, st⟩ : SortSpec)) x s = R at *
  have hb1 := ((Below.refl w.heap.size w).alloc (Nat.le_refl _) (.cells #[.string ⟨#[112, 111, 115, 105, 120]⟩, .slice (some ⟨g, 0, none⟩) 256 c, .string ⟨lowT.toArray⟩, .string ⟨upT.toArray⟩, .slice none 0 0, .slice none 0 0] 37)).alloc (by simp) (.cells #[.slice ka ks.length kc, .int .i64 sep, .int .i64 fl, .bool uq, .bool st] 24)
  have HB1 := Lib.hid hb1
  clear hb1
  go_enter Tryz.func50, Tryz.ntmps50
  go_wp2
  go_loopw [9] (fun i wr => ∃ k : Nat, k ≤ s.length ∧ i = .int .i64 k ∧ Below w.heap.size w wr ∧ Box wr w.heap.size (.slice (some ⟨g, 0, none⟩) 256 c) ∧ SBox wr (w.heap.size + 1) (.slice ka ks.length kc) ⟨ks, sep, fl, uq, st⟩ ∧ Hid (∀ j y, k ≤ j → s[j]? = some y → gt ⟨ks, sep, fl, uq, st⟩ y x = true)) (fun i _ => (intOf i).toNat)
  case atStart => exact ⟨s.length, Nat.le_refl _, rfl, HB1.out, (Below.heap_alloc _ _ _ (by simp)).trans (heap_alloc_new w _), alloc2 w _ _, fun j y hj hy => by rw [List.getElem?_eq_none hj] at hy; cases hy⟩
  case round =>
    obtain ⟨k, hkl, rfl, hbw, hbx, hsx, HT⟩ := hrel
    have HBX := Lib.hid hbx
    have HSX := Lib.hid hsx
    have HBW := Lib.hid hbw
    have hws := hbw.size
    obtain ⟨-, c1, c2, c3, c4, c5⟩ := hbx.cells
    have c0 := hbx.cells'
    obtain ⟨d0, d1, d2, d3, d4⟩ := hsx.cells
    clear hbx hsx
    have HSW := Lib.hid (ha.below hbw)
    obtain ⟨a1, hsl1, hst1⟩ := KSub.head ha k hkl
    obtain ⟨a2, c2', hsl2, hst2⟩ := KSub.tail ha k hkl
    have HS1 := Lib.hid hst1
    have HS2 := Lib.hid hst2
    clear hst1 hst2
    have exitW : True := trivial
    rcases Nat.eq_zero_or_pos k with hk0 | hk0
    · subst hk0
      simp only [Int.cast_ofNat_Int] at *
      have HR : Hid (R = s.take 0 ++ x :: s.drop 0) := HIN.out 0 (Nat.zero_le _) HT.out (fun y h => absurd h (Nat.lt_irrefl _))
      go_wp2
      refine KCompare.enter (by kernel_rfl) (by kernel_rfl) ?_
      intro X F hN hBF hF
      repeat go_big_quiet_step (fail)
      refine wpQuiet_nil ?_
      rintro _ ⟨z, rfl⟩
      have HBF2 := Lib.hid (hbw.trans ((hBF z).mono hws))
      have hwz : w.heap.size ≤ (F z).heap.size := HBF2.out.size
      have HSF := Lib.hid (HA.out.below HBF2.out)
      go_wp2_with (first
        | (at_builtin
           refine Own.wpList_append_all (F z) rfl _ _ 25 rfl w.heap.size 9 i0 (.string ⟨#[]⟩) 16 Tryz.underlying25 hi hz0 hz1 hz2 rfl (.slice none 0 0) 0 [] rfl (Own.Row.nil _ _ _ _) a1 0 ca (cellsOf (s.take 0)) rfl (by rw [cellsOf_length, List.length_take]; omega) (strs_src (HS1.out _ HSF.out)) (cellsOf_one _) (by unfold maxLen; omega) (by omega) hwz ?_
           intro v5 w5 hrow5 hg5 hb5
           rw [Nat.zero_add, List.nil_append] at hrow5
           have HR5 := Lib.hid hrow5
           have HB5 := Lib.hid (HBF2.out.trans hb5)
           obtain ⟨v5a, v5c, rfl⟩ := hrow5.form
           have hw5 : w.heap.size ≤ w5.heap.size := HB5.out.size
           clear hrow5)
        | (at_builtin
           refine Own.wpList_append_one w5 rfl _ _ 25 rfl w.heap.size 9 i0 (.string ⟨#[]⟩) 16 Tryz.underlying25 hi hz0 hz1 hz2 rfl (.slice v5a 0 v5c) 0 (cellsOf (s.take 0)) rfl HR5.out _ rfl rfl (by unfold maxLen; omega) (by omega) hw5 ?_
           intro v6 w6 hrow6 hg6 hb6
           have HR6 := Lib.hid hrow6
           have HB6 := Lib.hid (HB5.out.trans hb6)
           obtain ⟨v6a, v6c, rfl⟩ := hrow6.form
           have hw6 : w.heap.size ≤ w6.heap.size := HB6.out.size
           have HS6 := Lib.hid (HS2.out _ (HA.out.below HB6.out))
           clear hrow6)
        | (at_builtin
           refine Own.wpList_append_all w6 rfl _ _ 25 rfl w.heap.size 9 i0 (.string ⟨#[]⟩) 16 Tryz.underlying25 hi hz0 hz1 hz2 rfl (.slice v6a (0 + 1) v6c) (0 + 1) (cellsOf (s.take 0) ++ [.string ⟨x.toArray⟩]) rfl HR6.out a2 (s.length - 0) c2' (cellsOf (s.drop 0)) rfl (by simp [cellsOf_length]) (strs_src HS6.out) (cellsOf_one _) (by unfold maxLen; omega) (by omega) hw6 ?_
           intro v7 w7 hrow7 hg7 hb7
           have HR7 := Lib.hid hrow7
           have HB7 := Lib.hid (HB6.out.trans hb7)
           obtain ⟨v7a, v7c, rfl⟩ := hrow7.form
           clear hrow7))
      go_ret
      rw [HR.out]
      refine ⟨_, rfl, ?_, HB7.out⟩
      rw [cellsOf_append, show cellsOf (x :: s.drop 0) = [.string ⟨x.toArray⟩] ++ cellsOf (s.drop 0) from rfl]
      have hr := HR7.out
      rw [List.append_assoc] at hr
      have e : (s.take 0 ++ x :: s.drop 0).length = 0 + 1 + (s.length - 0) := by simp; omega
      rw [e]
      exact hr
    · obtain ⟨m, rfl⟩ : ∃ m, k = m + 1 := ⟨k - 1, by omega⟩
      have e1 : ((m + 1 : Nat) : Int) = (m : Int) + 1 := by omega
      rw [e1] at hsl1 hsl2
      clear e1
      have hml : m < s.length := by omega
      obtain ⟨y, hym⟩ : ∃ y, s[m]? = some y := ⟨_, List.getElem?_eq_getElem hml⟩
      obtain ⟨bx, ox, hax, hcy⟩ := (show ∃ b off, aa = some ⟨b, off, none⟩ ∧ w.cell? ⟨b, off + m, none⟩ = some (.string ⟨y.toArray⟩) from by
        obtain ⟨a', c', e, -, hc⟩ := ha
        injection e with e1
        obtain ⟨b, off, e2, hcell⟩ := hc (by intro e; subst e; simp at hml)
        exact ⟨b, off, e1.trans e2, hcell m y hym⟩)
      subst hax
      have hcw := up hbw hcy
      have HYF := HF.out y (List.mem_of_getElem? hym)
      have HOY := Lib.hid (fun W hW hK => HO.out y HYF W hW hK)
      have HGY := HGT.out y
      have hmi : (m : Int) < (s.length : Int) := by omega
      have hm1 : (0 : Int) < (m : Int) + 1 := by omega
      have HYM := Lib.hid hym
      clear hym hcy
      go_wp2
      refine KCompare.enter (by kernel_rfl) (by kernel_rfl) ?_
      intro X F hN hBF hF
      have hX : ∀ z, Box (F z) w.heap.size (.slice (some ⟨g, 0, none⟩) 256 c) := fun z => HBX.out.keep ((hBF z).block _ HBX.out.lt)
      have hS : ∀ z, SBox (F z) (w.heap.size + 1) (.slice ka ks.length kc) ⟨ks, sep, fl, uq, st⟩ := fun z => HSX.out.keep ((hBF z).block _ HSX.out.lt)
      have hBel : ∀ z, Below w.heap.size w (F z) := fun z => hbw.trans ((hBF z).mono hws)
      have HVF : Hid (∀ z, Wts (F z) (.slice (some ⟨g, 0, none⟩) 256 c)) := fun z => HV.out.below (hBel z)
      have HKF : Hid (∀ z, Keys (F z) (.slice ka ks.length kc) ks) := fun z => HK.out.below (hBel z)
      clear c0 c1 c2 c3 c4 c5 d0 d1 d2 d3 d4
      have c0 : ∀ z, (F z).cell? ⟨w.heap.size, 0, none⟩ = some (.string ⟨#[112, 111, 115, 105, 120]⟩) := fun z => (hX z).cells'
      have c1 : ∀ z, (F z).cell? ⟨w.heap.size, 1, none⟩ = some (.slice (some ⟨g, 0, none⟩) 256 c) := fun z => (hX z).cells.2.1
      have c2 : ∀ z, (F z).cell? ⟨w.heap.size, 2, none⟩ = some (.string ⟨lowT.toArray⟩) := fun z => (hX z).cells.2.2.1
      have c3 : ∀ z, (F z).cell? ⟨w.heap.size, 3, none⟩ = some (.string ⟨upT.toArray⟩) := fun z => (hX z).cells.2.2.2.1
      have c4 : ∀ z, (F z).cell? ⟨w.heap.size, 4, none⟩ = some (.slice none 0 0) := fun z => (hX z).cells.2.2.2.2.1
      have c5 : ∀ z, (F z).cell? ⟨w.heap.size, 5, none⟩ = some (.slice none 0 0) := fun z => (hX z).cells.2.2.2.2.2
      have d0 : ∀ z, (F z).cell? ⟨w.heap.size + 1, 0, none⟩ = some (.slice ka ks.length kc) := fun z => (hS z).cells.1
      have d1 : ∀ z, (F z).cell? ⟨w.heap.size + 1, 1, none⟩ = some (.int .i64 sep) := fun z => (hS z).cells.2.1
      have d2 : ∀ z, (F z).cell? ⟨w.heap.size + 1, 2, none⟩ = some (.int .i64 fl) := fun z => (hS z).cells.2.2.1
      have d3 : ∀ z, (F z).cell? ⟨w.heap.size + 1, 3, none⟩ = some (.bool uq) := fun z => (hS z).cells.2.2.2.1
      have d4 : ∀ z, (F z).cell? ⟨w.heap.size + 1, 4, none⟩ = some (.bool st) := fun z => (hS z).cells.2.2.2.2
      have hcf : ∀ z, (F z).cell? ⟨bx, ox + m, none⟩ = some (.string ⟨y.toArray⟩) := fun z => up (hBF z) hcw
      have HXF := Lib.hid hX
      have HSF2 := Lib.hid hS
      have HBF := Lib.hid hBF
      have HBL := Lib.hid hBel
      clear hX hS hBel hBF
      repeat go_big_quiet_step (first
        | (go_at_call 47
           (with_reducible refine (HOY.out _ (HVF.out _) (HKF.out _)).mono ?_)
           rintro e w1 ⟨rfl, hb1⟩
           exact ⟨rfl, hF _ _ hb1⟩))
      refine wpQuiet_nil ?_
      rintro _ ⟨z, rfl⟩
      have hBF := HBF.out
      clear HBF
      rcases hord : decide (0 < order (⟨ks, sep, fl, uq, st⟩ : SortSpec) y x) with _ | _
      · have HR : Hid (R = s.take (m + 1) ++ x :: s.drop (m + 1)) := HIN.out (m + 1) hkl HT.out (fun y' h hy' => by
          rw [Nat.add_sub_cancel, HYM.out] at hy'
          cases hy'
          rw [HGY]
          exact hord)
        have hno : ¬ 0 < order (⟨ks, sep, fl, uq, st⟩ : SortSpec) y x := of_decide_eq_false hord
        clear hord
        clear HGY
        have HBF2 := Lib.hid (hbw.trans ((hBF z).mono hws))
        have hwz : w.heap.size ≤ (F z).heap.size := HBF2.out.size
        have HSF := Lib.hid (HA.out.below HBF2.out)
        go_wp2_with (first
          | (at_builtin
             refine Own.wpList_append_all (F z) rfl _ _ 25 rfl w.heap.size 9 i0 (.string ⟨#[]⟩) 16 Tryz.underlying25 hi hz0 hz1 hz2 rfl (.slice none 0 0) 0 [] rfl (Own.Row.nil _ _ _ _) a1 (m + 1) ca (cellsOf (s.take (m + 1))) rfl (by rw [cellsOf_length, List.length_take]; omega) (strs_src (HS1.out _ HSF.out)) (cellsOf_one _) (by unfold maxLen; omega) (by omega) hwz ?_
             intro v5 w5 hrow5 hg5 hb5
             rw [Nat.zero_add, List.nil_append] at hrow5
             have HR5 := Lib.hid hrow5
             have HB5 := Lib.hid (HBF2.out.trans hb5)
             obtain ⟨v5a, v5c, rfl⟩ := hrow5.form
             have hw5 : w.heap.size ≤ w5.heap.size := HB5.out.size
             clear hrow5)
          | (at_builtin
             refine Own.wpList_append_one w5 rfl _ _ 25 rfl w.heap.size 9 i0 (.string ⟨#[]⟩) 16 Tryz.underlying25 hi hz0 hz1 hz2 rfl (.slice v5a (m + 1) v5c) (m + 1) (cellsOf (s.take (m + 1))) rfl HR5.out _ rfl rfl (by unfold maxLen; omega) (by omega) hw5 ?_
             intro v6 w6 hrow6 hg6 hb6
             have HR6 := Lib.hid hrow6
             have HB6 := Lib.hid (HB5.out.trans hb6)
             obtain ⟨v6a, v6c, rfl⟩ := hrow6.form
             have hw6 : w.heap.size ≤ w6.heap.size := HB6.out.size
             have HS6 := Lib.hid (HS2.out _ (HA.out.below HB6.out))
             clear hrow6)
          | (at_builtin
             refine Own.wpList_append_all w6 rfl _ _ 25 rfl w.heap.size 9 i0 (.string ⟨#[]⟩) 16 Tryz.underlying25 hi hz0 hz1 hz2 rfl (.slice v6a ((m + 1) + 1) v6c) ((m + 1) + 1) (cellsOf (s.take (m + 1)) ++ [.string ⟨x.toArray⟩]) rfl HR6.out a2 (s.length - (m + 1)) c2' (cellsOf (s.drop (m + 1))) rfl (by simp [cellsOf_length]) (strs_src HS6.out) (cellsOf_one _) (by unfold maxLen; omega) (by omega) hw6 ?_
             intro v7 w7 hrow7 hg7 hb7
             have HR7 := Lib.hid hrow7
             have HB7 := Lib.hid (HB6.out.trans hb7)
             obtain ⟨v7a, v7c, rfl⟩ := hrow7.form
             clear hrow7))
        go_ret
        rw [HR.out]
        refine ⟨_, rfl, ?_, HB7.out⟩
        rw [cellsOf_append, show cellsOf (x :: s.drop (m + 1)) = [.string ⟨x.toArray⟩] ++ cellsOf (s.drop (m + 1)) from rfl]
        have hr := HR7.out
        rw [List.append_assoc] at hr
        have e : (s.take (m + 1) ++ x :: s.drop (m + 1)).length = (m + 1) + 1 + (s.length - (m + 1)) := by simp; omega
        rw [e]
        exact hr
      · have hyes : 0 < order (⟨ks, sep, fl, uq, st⟩ : SortSpec) y x := of_decide_eq_true hord
        have HT2 : Hid (∀ j y', m ≤ j → s[j]? = some y' → gt (⟨ks, sep, fl, uq, st⟩ : SortSpec) y' x = true) := fun j y' hj hy' => by
          by_cases hjm : j = m
          · subst hjm
            rw [HYM.out] at hy'
            cases hy'
            rw [HGY]
            exact hord
          · exact HT.out j y' (by omega) hy'
        clear hord HGY
        go_wp2
        go_roundw
        case rel => exact ⟨m, by omega, by first | rfl | go_num, HBL.out z, HXF.out z, HSF2.out z, HT2⟩
        case measure => simp [intOf]
end Go.Proofs.YtkekpiillbpciaaGreatDoor.KRefSort

/- Lines without those that are equal to the one kept last: what the reference's once returns. At most 65536 lines of at most 65536 bytes. -/
namespace Go.Proofs.YtkekpiillbpciaaGreatDoor.KRefSort
open Go Go.RowKit KeyMath KeyVals ScanMath Strs KLoc KRefCmp KSpec KEnv SortMath KMerge
set_option maxRecDepth 100000
theorem take_snoc {ls : List Str} {k : Nat} {x : Str} (h : ls[k]? = some x) : ls.take (k + 1) = ls.take k ++ [x] := by
  rw [List.take_add_one, h]
  rfl
theorem take_len {ls : List Str} {k : Nat} (h : k ≤ ls.length) : (ls.take k).length = k := by rw [List.length_take]; omega
set_option maxHeartbeats 16000000 in
theorem refOnce_any (v sv : Value) (p : SortSpec) (ls : List Str) (a : Value) (w : World) (hv : Wts w v) (hk : Keys w sv p.keys) (h0 : check p = 0) (hL : ls.length ≤ 65536) (hfit : Fit ls) (ha : Strs w a ls) :
    Calls Tryz.prog 51 #[.agg #[posix, v, .string ⟨lowT.toArray⟩, .string ⟨upT.toArray⟩, .slice none 0 0, .slice none 0 0], specVal sv p, a] w (MPost w (if p.uniq then onceTo p [] ls else ls)) := by
  obtain ⟨i0, hi, hz0, hz1, hz2⟩ := info_parts str_info
  have HC := Lib.hid (fun x y (hx : x.length ≤ 65536) (hy : y.length ≤ 65536) W hW hK => refCmp_on v sv p x y W hW hK h0 hx hy)
  have HV := Lib.hid hv
  have HK := Lib.hid hk
  have HF := Lib.hid hfit
  obtain ⟨aa, ca, rfl, hma0, hca⟩ := ha
  have hma : ls.length ≤ 2 ^ 63 - 1 := Nat.le_trans hma0.1 hma0.2
  clear hma0 hfit h0
  obtain ⟨g, c, rfl, hgc, hcell⟩ := hv
  obtain ⟨ka, kc, rfl, -⟩ := hk
  clear hcell
  obtain ⟨ks, sep, fl, uq, st⟩ := p
  unfold posix specVal at *
  simp only at *
  cases uq with
  | false =>
    have hb1 := ((Below.refl w.heap.size w).alloc (Nat.le_refl _) (.cells #[.string ⟨#[112, 111, 115, 105, 120]⟩, .slice (some ⟨g, 0, none⟩) 256 c, .string ⟨lowT.toArray⟩, .string ⟨upT.toArray⟩, .slice none 0 0, .slice none 0 0] 37)).alloc (by simp) (.cells #[.slice ka ks.length kc, .int .i64 sep, .int .i64 fl, .bool false, .bool st] 24)
    have HB1 := Lib.hid hb1
    clear hb1
    go_enter Tryz.func51, Tryz.ntmps51
    go_wp2
    go_loopw [7, 8] (fun o i wr => ∃ (k : Nat) (os : List Str), k ≤ ls.length ∧ i = .int .i64 k ∧ os.length ≤ k ∧ Own.Row wr (w.heap.size + 2) 9 1 o os.length (cellsOf os) ∧ Below w.heap.size w wr ∧ Box wr w.heap.size (.slice (some ⟨g, 0, none⟩) 256 c) ∧ SBox wr (w.heap.size + 1) (.slice ka ks.length kc) ⟨ks, sep, fl, false, st⟩ ∧ Hid (Fit os) ∧ Hid (os = ls.take k)) (fun _ i _ => ls.length - (intOf i).toNat)
    case atStart => exact ⟨0, [], Nat.zero_le _, rfl, Nat.le_refl _, Own.Row.nil _ _ _ _, HB1.out, (Below.heap_alloc _ _ _ (by simp)).trans (heap_alloc_new w _), alloc2 w _ _, (fun x hx => by cases hx), rfl⟩
    case round =>
      obtain ⟨k, os, hk, rfl, hos, hro, hbw, hbx, hsx, HFO, HN⟩ := hrel
      have HRO := Lib.hid hro
      have HBX := Lib.hid hbx
      have HSX := Lib.hid hsx
      have HBW := Lib.hid hbw
      have hws := hbw.size
      have hlx := hsx.lt
      obtain ⟨-, c1, c2, c3, c4, c5⟩ := hbx.cells
      have c0 := hbx.cells'
      obtain ⟨d0, d1, d2, d3, d4⟩ := hsx.cells
      clear hbx hsx
      by_cases hlt : k < ls.length
      · have hkl : (k : Int) < (ls.length : Int) := by omega
        obtain ⟨bx, ox, rfl, hcx⟩ := hca (by intro e; subst e; simp at hlt)
        have hxs : ls[k]? = some ls[k] := List.getElem?_eq_getElem hlt
        have hx := up hbw (hcx k ls[k] hxs)
        have HXS := Lib.hid hxs
        have HXL := Lib.hid (HF.out ls[k] (List.getElem_mem hlt))
        clear hxs hca hcx
        generalize ls[k] = x at *
        obtain ⟨ov, oc, rfl⟩ := hro.form
        have HN2 : Hid (os ++ [x] = ls.take (k + 1)) := by
          show _ = _
          rw [HN.out, take_snoc HXS.out]
        clear hro
        go_wp2
        refine KCompare.enter (by kernel_rfl) (by kernel_rfl) ?_
        intro X F hN hBF hF
        have hX : ∀ z, Box (F z) w.heap.size (.slice (some ⟨g, 0, none⟩) 256 c) := fun z => HBX.out.keep ((hBF z).block _ HBX.out.lt)
        have hS : ∀ z, SBox (F z) (w.heap.size + 1) (.slice ka ks.length kc) ⟨ks, sep, fl, false, st⟩ := fun z => HSX.out.keep ((hBF z).block _ HSX.out.lt)
        have hBel : ∀ z, Below w.heap.size w (F z) := fun z => hbw.trans ((hBF z).mono hws)
        have HVF : Hid (∀ z, Wts (F z) (.slice (some ⟨g, 0, none⟩) 256 c)) := fun z => HV.out.below (hBel z)
        have HKF : Hid (∀ z, Keys (F z) (.slice ka ks.length kc) ks) := fun z => HK.out.below (hBel z)
        clear c0 c1 c2 c3 c4 c5 d0 d1 d2 d3 d4
        have c0 : ∀ z, (F z).cell? ⟨w.heap.size, 0, none⟩ = some (.string ⟨#[112, 111, 115, 105, 120]⟩) := fun z => (hX z).cells'
        have c1 : ∀ z, (F z).cell? ⟨w.heap.size, 1, none⟩ = some (.slice (some ⟨g, 0, none⟩) 256 c) := fun z => (hX z).cells.2.1
        have c2 : ∀ z, (F z).cell? ⟨w.heap.size, 2, none⟩ = some (.string ⟨lowT.toArray⟩) := fun z => (hX z).cells.2.2.1
        have c3 : ∀ z, (F z).cell? ⟨w.heap.size, 3, none⟩ = some (.string ⟨upT.toArray⟩) := fun z => (hX z).cells.2.2.2.1
        have c4 : ∀ z, (F z).cell? ⟨w.heap.size, 4, none⟩ = some (.slice none 0 0) := fun z => (hX z).cells.2.2.2.2.1
        have c5 : ∀ z, (F z).cell? ⟨w.heap.size, 5, none⟩ = some (.slice none 0 0) := fun z => (hX z).cells.2.2.2.2.2
        have d0 : ∀ z, (F z).cell? ⟨w.heap.size + 1, 0, none⟩ = some (.slice ka ks.length kc) := fun z => (hS z).cells.1
        have d1 : ∀ z, (F z).cell? ⟨w.heap.size + 1, 1, none⟩ = some (.int .i64 sep) := fun z => (hS z).cells.2.1
        have d2 : ∀ z, (F z).cell? ⟨w.heap.size + 1, 2, none⟩ = some (.int .i64 fl) := fun z => (hS z).cells.2.2.1
        have d3 : ∀ z, (F z).cell? ⟨w.heap.size + 1, 3, none⟩ = some (.bool false) := fun z => (hS z).cells.2.2.2.1
        have d4 : ∀ z, (F z).cell? ⟨w.heap.size + 1, 4, none⟩ = some (.bool st) := fun z => (hS z).cells.2.2.2.2
        have HXF := Lib.hid hX
        have HSF := Lib.hid hS
        have HBF := Lib.hid hBF
        have HBL := Lib.hid hBel
        clear hX hS hBel hBF
        repeat go_big_quiet_step (fail)
        refine wpQuiet_nil ?_
        rintro _ ⟨z, rfl⟩
        have hwz : w.heap.size + 2 ≤ (F z).heap.size := Nat.le_trans (by omega) (HBF.out z).size
        have HROF := Lib.hid (HRO.out.below (HBF.out z))
        have hxz := up (HBF.out z) hx
        go_wp2_with (at_builtin
                     refine Own.wpList_append_one (F z) rfl _ _ 25 rfl (w.heap.size + 2) 9 i0 (.string ⟨#[]⟩) 16 Tryz.underlying25 hi hz0 hz1 hz2 rfl (.slice ov os.length oc) os.length (cellsOf os) rfl HROF.out _ rfl rfl (by unfold maxLen; omega) (by omega) hwz ?_
                     intro v5 w5 hrow5 hg5 hb5
                     have HR5 := Lib.hid hrow5
                     have HB5 := Lib.hid ((HBL.out z).trans (hb5.mono (Nat.le_add_right _ _)))
                     have HX5 := Lib.hid ((HXF.out z).keep (hb5.block _ (by omega)))
                     have HS5 := Lib.hid ((HSF.out z).keep (hb5.block _ (by omega)))
                     clear hrow5)
        go_roundw
        case rel =>
          refine ⟨k + 1, os ++ [x], by omega, by go_num, by simp; omega, ?_, HB5.out, HX5.out, HS5.out, fit_snoc HFO.out HXL.out, HN2.out⟩
          rw [cellsOf_append, List.length_append]
          exact HR5.out
        case measure => simp [intOf]; omega
      · obtain rfl : k = ls.length := by omega
        obtain ⟨ov, oc, rfl⟩ := hro.form
        have HN2 : Hid (os = ls) := by
          show _ = _
          rw [HN.out, List.take_length]
        clear hca hro
        go_wp2
        go_ret
        refine ⟨_, rfl, ?_, hbw⟩
        show Own.Row _ _ _ _ _ (List.length (ls)) (cellsOf (ls))
        rw [← HN2.out]
        exact HRO.out.mono (Nat.le_add_right _ _)
  | true =>
    have hb1 := ((Below.refl w.heap.size w).alloc (Nat.le_refl _) (.cells #[.string ⟨#[112, 111, 115, 105, 120]⟩, .slice (some ⟨g, 0, none⟩) 256 c, .string ⟨lowT.toArray⟩, .string ⟨upT.toArray⟩, .slice none 0 0, .slice none 0 0] 37)).alloc (by simp) (.cells #[.slice ka ks.length kc, .int .i64 sep, .int .i64 fl, .bool true, .bool st] 24)
    have HB1 := Lib.hid hb1
    clear hb1
    go_enter Tryz.func51, Tryz.ntmps51
    go_wp2
    go_loopw [7, 8] (fun o i wr => ∃ (k : Nat) (os : List Str), k ≤ ls.length ∧ i = .int .i64 k ∧ os.length ≤ k ∧ Own.Row wr (w.heap.size + 2) 9 1 o os.length (cellsOf os) ∧ Below w.heap.size w wr ∧ Box wr w.heap.size (.slice (some ⟨g, 0, none⟩) 256 c) ∧ SBox wr (w.heap.size + 1) (.slice ka ks.length kc) ⟨ks, sep, fl, true, st⟩ ∧ Hid (Fit os) ∧ Hid (onceTo ⟨ks, sep, fl, true, st⟩ [] ls = onceTo ⟨ks, sep, fl, true, st⟩ os (ls.drop k))) (fun _ i _ => ls.length - (intOf i).toNat)
    case atStart => exact ⟨0, [], Nat.zero_le _, rfl, Nat.le_refl _, Own.Row.nil _ _ _ _, HB1.out, (Below.heap_alloc _ _ _ (by simp)).trans (heap_alloc_new w _), alloc2 w _ _, (fun x hx => by cases hx), rfl⟩
    case round =>
      obtain ⟨k, os, hk, rfl, hos, hro, hbw, hbx, hsx, HFO, HN⟩ := hrel
      have HRO := Lib.hid hro
      have HBX := Lib.hid hbx
      have HSX := Lib.hid hsx
      have HBW := Lib.hid hbw
      have hws := hbw.size
      have hlx := hsx.lt
      obtain ⟨-, c1, c2, c3, c4, c5⟩ := hbx.cells
      have c0 := hbx.cells'
      obtain ⟨d0, d1, d2, d3, d4⟩ := hsx.cells
      clear hbx hsx
      by_cases hlt : k < ls.length
      · have hkl : (k : Int) < (ls.length : Int) := by omega
        obtain ⟨bx, ox, rfl, hcx⟩ := hca (by intro e; subst e; simp at hlt)
        have hxs : ls[k]? = some ls[k] := List.getElem?_eq_getElem hlt
        have hx := up hbw (hcx k ls[k] hxs)
        have HXS := Lib.hid hxs
        have HXL := Lib.hid (HF.out ls[k] (List.getElem_mem hlt))
        clear hxs hca hcx
        generalize ls[k] = x at *
        rcases List.eq_nil_or_concat os with rfl | ⟨oi, y, rfl⟩
        · obtain ⟨ov, oc, rfl⟩ := hro.form
          have HN2 : Hid (onceTo ⟨ks, sep, fl, true, st⟩ [] ls = onceTo ⟨ks, sep, fl, true, st⟩ [x] (ls.drop (k + 1))) := by
            show _ = _
            rw [HN.out, drop_cons HXS.out, onceTo_first]
          simp only [List.length_nil] at *
          clear hro
          go_wp2
          refine KCompare.enter (by kernel_rfl) (by kernel_rfl) ?_
          intro X F hN hBF hF
          have hX : ∀ z, Box (F z) w.heap.size (.slice (some ⟨g, 0, none⟩) 256 c) := fun z => HBX.out.keep ((hBF z).block _ HBX.out.lt)
          have hS : ∀ z, SBox (F z) (w.heap.size + 1) (.slice ka ks.length kc) ⟨ks, sep, fl, true, st⟩ := fun z => HSX.out.keep ((hBF z).block _ HSX.out.lt)
          have hBel : ∀ z, Below w.heap.size w (F z) := fun z => hbw.trans ((hBF z).mono hws)
          have HVF : Hid (∀ z, Wts (F z) (.slice (some ⟨g, 0, none⟩) 256 c)) := fun z => HV.out.below (hBel z)
          have HKF : Hid (∀ z, Keys (F z) (.slice ka ks.length kc) ks) := fun z => HK.out.below (hBel z)
          clear c0 c1 c2 c3 c4 c5 d0 d1 d2 d3 d4
          have c0 : ∀ z, (F z).cell? ⟨w.heap.size, 0, none⟩ = some (.string ⟨#[112, 111, 115, 105, 120]⟩) := fun z => (hX z).cells'
          have c1 : ∀ z, (F z).cell? ⟨w.heap.size, 1, none⟩ = some (.slice (some ⟨g, 0, none⟩) 256 c) := fun z => (hX z).cells.2.1
          have c2 : ∀ z, (F z).cell? ⟨w.heap.size, 2, none⟩ = some (.string ⟨lowT.toArray⟩) := fun z => (hX z).cells.2.2.1
          have c3 : ∀ z, (F z).cell? ⟨w.heap.size, 3, none⟩ = some (.string ⟨upT.toArray⟩) := fun z => (hX z).cells.2.2.2.1
          have c4 : ∀ z, (F z).cell? ⟨w.heap.size, 4, none⟩ = some (.slice none 0 0) := fun z => (hX z).cells.2.2.2.2.1
          have c5 : ∀ z, (F z).cell? ⟨w.heap.size, 5, none⟩ = some (.slice none 0 0) := fun z => (hX z).cells.2.2.2.2.2
          have d0 : ∀ z, (F z).cell? ⟨w.heap.size + 1, 0, none⟩ = some (.slice ka ks.length kc) := fun z => (hS z).cells.1
          have d1 : ∀ z, (F z).cell? ⟨w.heap.size + 1, 1, none⟩ = some (.int .i64 sep) := fun z => (hS z).cells.2.1
          have d2 : ∀ z, (F z).cell? ⟨w.heap.size + 1, 2, none⟩ = some (.int .i64 fl) := fun z => (hS z).cells.2.2.1
          have d3 : ∀ z, (F z).cell? ⟨w.heap.size + 1, 3, none⟩ = some (.bool true) := fun z => (hS z).cells.2.2.2.1
          have d4 : ∀ z, (F z).cell? ⟨w.heap.size + 1, 4, none⟩ = some (.bool st) := fun z => (hS z).cells.2.2.2.2
          have HXF := Lib.hid hX
          have HSF := Lib.hid hS
          have HBF := Lib.hid hBF
          have HBL := Lib.hid hBel
          clear hX hS hBel hBF
          repeat go_big_quiet_step (fail)
          refine wpQuiet_nil ?_
          rintro _ ⟨z, rfl⟩
          have hwz : w.heap.size + 2 ≤ (F z).heap.size := Nat.le_trans (by omega) (HBF.out z).size
          have HROF := Lib.hid (HRO.out.below (HBF.out z))
          have hxz := up (HBF.out z) hx
          go_wp2_with (at_builtin
                       refine Own.wpList_append_one (F z) rfl _ _ 25 rfl (w.heap.size + 2) 9 i0 (.string ⟨#[]⟩) 16 Tryz.underlying25 hi hz0 hz1 hz2 rfl (.slice ov 0 oc) 0 (cellsOf []) rfl HROF.out _ rfl rfl (by unfold maxLen; omega) (by omega) hwz ?_
                       intro v5 w5 hrow5 hg5 hb5
                       have HR5 := Lib.hid hrow5
                       have HB5 := Lib.hid ((HBL.out z).trans (hb5.mono (Nat.le_add_right _ _)))
                       have HX5 := Lib.hid ((HXF.out z).keep (hb5.block _ (by omega)))
                       have HS5 := Lib.hid ((HSF.out z).keep (hb5.block _ (by omega)))
                       clear hrow5)
          go_roundw
          case rel => exact ⟨k + 1, [x], by omega, by go_num, by simp, HR5.out, HB5.out, HX5.out, HS5.out, fit_snoc (os := []) HFO.out HXL.out, HN2.out⟩
          case measure => simp [intOf]; omega
        · rw [List.concat_eq_append] at *
          obtain ⟨og, oc, rfl, hcy, hgl⟩ := row_last hro
          have HCY := Lib.hid (fun W hW hK => HC.out y x (HFO.out y (by simp)) HXL.out W hW hK)
          have hlen : (oi ++ [y]).length = oi.length + 1 := by simp
          rw [hlen] at HRO hos
          clear hro hlen
          have hlast : (oi ++ [y]).getLast? = some y := by simp
          have HLAST := Lib.hid hlast
          clear hlast
          generalize hC : KeyMath.compare ⟨ks, sep, fl, true, st⟩ y x = C at *
          have HCC := Lib.hid hC
          clear hC
          have hnz : ((oi.length : Int) + 1 == 0) = false := by
            have : (oi.length : Int) + 1 ≠ 0 := by omega
            simpa using this
          go_wp2
          refine KCompare.enter (by kernel_rfl) (by kernel_rfl) ?_
          intro X F hN hBF hF
          have hX : ∀ z, Box (F z) w.heap.size (.slice (some ⟨g, 0, none⟩) 256 c) := fun z => HBX.out.keep ((hBF z).block _ HBX.out.lt)
          have hS : ∀ z, SBox (F z) (w.heap.size + 1) (.slice ka ks.length kc) ⟨ks, sep, fl, true, st⟩ := fun z => HSX.out.keep ((hBF z).block _ HSX.out.lt)
          have hBel : ∀ z, Below w.heap.size w (F z) := fun z => hbw.trans ((hBF z).mono hws)
          have HVF : Hid (∀ z, Wts (F z) (.slice (some ⟨g, 0, none⟩) 256 c)) := fun z => HV.out.below (hBel z)
          have HKF : Hid (∀ z, Keys (F z) (.slice ka ks.length kc) ks) := fun z => HK.out.below (hBel z)
          clear c0 c1 c2 c3 c4 c5 d0 d1 d2 d3 d4
          have c0 : ∀ z, (F z).cell? ⟨w.heap.size, 0, none⟩ = some (.string ⟨#[112, 111, 115, 105, 120]⟩) := fun z => (hX z).cells'
          have c1 : ∀ z, (F z).cell? ⟨w.heap.size, 1, none⟩ = some (.slice (some ⟨g, 0, none⟩) 256 c) := fun z => (hX z).cells.2.1
          have c2 : ∀ z, (F z).cell? ⟨w.heap.size, 2, none⟩ = some (.string ⟨lowT.toArray⟩) := fun z => (hX z).cells.2.2.1
          have c3 : ∀ z, (F z).cell? ⟨w.heap.size, 3, none⟩ = some (.string ⟨upT.toArray⟩) := fun z => (hX z).cells.2.2.2.1
          have c4 : ∀ z, (F z).cell? ⟨w.heap.size, 4, none⟩ = some (.slice none 0 0) := fun z => (hX z).cells.2.2.2.2.1
          have c5 : ∀ z, (F z).cell? ⟨w.heap.size, 5, none⟩ = some (.slice none 0 0) := fun z => (hX z).cells.2.2.2.2.2
          have d0 : ∀ z, (F z).cell? ⟨w.heap.size + 1, 0, none⟩ = some (.slice ka ks.length kc) := fun z => (hS z).cells.1
          have d1 : ∀ z, (F z).cell? ⟨w.heap.size + 1, 1, none⟩ = some (.int .i64 sep) := fun z => (hS z).cells.2.1
          have d2 : ∀ z, (F z).cell? ⟨w.heap.size + 1, 2, none⟩ = some (.int .i64 fl) := fun z => (hS z).cells.2.2.1
          have d3 : ∀ z, (F z).cell? ⟨w.heap.size + 1, 3, none⟩ = some (.bool true) := fun z => (hS z).cells.2.2.2.1
          have d4 : ∀ z, (F z).cell? ⟨w.heap.size + 1, 4, none⟩ = some (.bool st) := fun z => (hS z).cells.2.2.2.2
          have hcyf : ∀ z, (F z).cell? ⟨og, oi.length, none⟩ = some (.string ⟨y.toArray⟩) := fun z => up (hBF z) hcy
          have hxf : ∀ z, (F z).cell? ⟨bx, ox + k, none⟩ = some (.string ⟨x.toArray⟩) := fun z => up (hBF z) hx
          have HXF := Lib.hid hX
          have HSF := Lib.hid hS
          have HBF := Lib.hid hBF
          have HBL := Lib.hid hBel
          clear hX hS hBel hBF
          repeat go_big_quiet_step (first
            | (go_at_call 49
               (with_reducible refine (HCY.out _ (HVF.out _) (HKF.out _)).mono ?_)
               rintro e w1 ⟨rfl, hb1⟩
               exact ⟨rfl, hF _ _ hb1⟩))
          refine wpQuiet_nil ?_
          rintro _ ⟨z, rfl⟩
          have hwz : w.heap.size + 2 ≤ (F z).heap.size := Nat.le_trans (by omega) (HBF.out z).size
          have HROF := Lib.hid (HRO.out.below (HBF.out z))
          have hxz := up (HBF.out z) hx
          by_cases hCz : C = 0
          · subst hCz
            have HN2 : Hid (onceTo ⟨ks, sep, fl, true, st⟩ [] ls = onceTo ⟨ks, sep, fl, true, st⟩ (oi ++ [y]) (ls.drop (k + 1))) := by
              show _ = _
              rw [HN.out, drop_cons HXS.out, onceTo_skip HLAST.out HCC.out]
            go_wp2
            go_roundw
            case rel => exact ⟨k + 1, oi ++ [y], by omega, by go_num, by simp; omega, by simpa using HROF.out, HBL.out z, HXF.out z, HSF.out z, HFO.out, HN2.out⟩
            case measure => simp [intOf]; omega
          · have hCb : (C == 0) = false := by simpa using hCz
            have HN2 : Hid (onceTo ⟨ks, sep, fl, true, st⟩ [] ls = onceTo ⟨ks, sep, fl, true, st⟩ (oi ++ [y] ++ [x]) (ls.drop (k + 1))) := by
              show _ = _
              rw [HN.out, drop_cons HXS.out, onceTo_add HLAST.out (by rw [HCC.out]; exact hCz)]
            clear hCz
            go_wp2_with (at_builtin
                         refine Own.wpList_append_one (F z) rfl _ _ 25 rfl (w.heap.size + 2) 9 i0 (.string ⟨#[]⟩) 16 Tryz.underlying25 hi hz0 hz1 hz2 rfl (.slice (some ⟨og, 0, none⟩) (oi.length + 1) oc) (oi.length + 1) (cellsOf (oi ++ [y])) rfl HROF.out _ rfl rfl (by unfold maxLen; omega) (by omega) hwz ?_
                         intro v5 w5 hrow5 hg5 hb5
                         have HR5 := Lib.hid hrow5
                         have HB5 := Lib.hid ((HBL.out z).trans (hb5.mono (Nat.le_add_right _ _)))
                         have HX5 := Lib.hid ((HXF.out z).keep (hb5.block _ (by omega)))
                         have HS5 := Lib.hid ((HSF.out z).keep (hb5.block _ (by omega)))
                         clear hrow5)
            go_roundw
            case rel =>
              refine ⟨k + 1, oi ++ [y] ++ [x], by omega, by go_num, by simp; omega, ?_, HB5.out, HX5.out, HS5.out, fit_snoc HFO.out HXL.out, HN2.out⟩
              rw [cellsOf_append, List.length_append, show cellsOf [x] = [.string ⟨x.toArray⟩] from rfl]
              simpa using HR5.out
            case measure => simp [intOf]; omega
      · obtain rfl : k = ls.length := by omega
        obtain ⟨ov, oc, rfl⟩ := hro.form
        have HN2 : Hid (os = onceTo ⟨ks, sep, fl, true, st⟩ [] ls) := by
          show _ = _
          rw [HN.out, List.drop_length, onceTo_nil]
        clear hca hro
        go_wp2
        go_ret
        refine ⟨_, rfl, ?_, hbw⟩
        show Own.Row _ _ _ _ _ (List.length (onceTo ⟨ks, sep, fl, true, st⟩ [] ls)) (cellsOf (onceTo ⟨ks, sep, fl, true, st⟩ [] ls))
        rw [← HN2.out]
        exact HRO.out.mono (Nat.le_add_right _ _)
end Go.Proofs.YtkekpiillbpciaaGreatDoor.KRefSort

/- Sorting lines: what the reference's Sort returns. At most 65536 lines of at most 65536 bytes. -/
namespace Go.Proofs.YtkekpiillbpciaaGreatDoor.KRefSort
open Go Go.RowKit KeyMath KeyVals ScanMath Strs KLoc KRefCmp KSpec KEnv SortMath KMerge
set_option maxRecDepth 100000
set_option maxHeartbeats 16000000 in
theorem refSort_any (v sv : Value) (p : SortSpec) (ls : List Str) (a : Value) (w : World) (hv : Wts w v) (hk : Keys w sv p.keys) (h0 : check p = 0) (hL : ls.length ≤ 65536) (hfit : Fit ls) (ha : Strs w a ls) :
    Calls Tryz.prog 26 #[.agg #[posix, v, .string ⟨lowT.toArray⟩, .string ⟨upT.toArray⟩, .slice none 0 0, .slice none 0 0], specVal sv p, a] w (MPost w (sort p ls)) := by
  have HCK := Lib.hid (fun W (hW : Keys W sv p.keys) => KCheck.refCheck_any sv p W hW)
  rw [h0] at HCK
  have HSUB : ∀ k, Fit (isort (gt p) (ls.take k)) := fun k x hx => hfit x (List.mem_of_mem_take ((mem_isort _ _).1 hx))
  have HIN := Lib.hid (fun k x (hk : k ≤ ls.length) (hx : x.length ≤ 65536) b W hW hK hB => insert_any v sv p (isort (gt p) (ls.take k)) x b W hW hK h0 (by rw [length_isort, take_len hk]; omega) (HSUB k) hx (srt_isort (gt_weak p) _) hB)
  have HON : Hid (∀ b W, Wts W v → Keys W sv p.keys → Strs W b (isort (gt p) ls) → Calls Tryz.prog 51 #[.agg #[posix, v, .string ⟨lowT.toArray⟩, .string ⟨upT.toArray⟩, .slice none 0 0, .slice none 0 0], specVal sv p, b] W (MPost W (sort p ls))) := (fun b W hW hK hB => refOnce_any v sv p (isort (gt p) ls) b W hW hK h0 (by rw [length_isort]; exact hL) (fun x hx => hfit x ((mem_isort _ _).1 hx)) hB)
  have HLEN : Hid (∀ k, k ≤ ls.length → (isort (gt p) (ls.take k)).length = k) := fun k hk => by rw [length_isort, take_len hk]
  have HSTEP : Hid (∀ k x, ls[k]? = some x → isort (gt p) (ls.take (k + 1)) = ins (gt p) x (isort (gt p) (ls.take k))) := fun k x h => isort_take h
  have HV := Lib.hid hv
  have HK := Lib.hid hk
  have HF := Lib.hid hfit
  obtain ⟨aa, ca, rfl, hma0, hca⟩ := ha
  have hma : ls.length ≤ 2 ^ 63 - 1 := Nat.le_trans hma0.1 hma0.2
  clear hma0 hfit h0 HSUB
  obtain ⟨g, c, rfl, hgc, hcell⟩ := hv
  obtain ⟨ka, kc, rfl, -⟩ := hk
  clear hcell
  obtain ⟨ks, sep, fl, uq, st⟩ := p
  unfold posix specVal at *
  simp only at *
  generalize sort (⟨ks, sep, fl, uq, st⟩ : SortSpec) ls = R at *
  have hb1 := ((Below.refl w.heap.size w).alloc (Nat.le_refl _) (.cells #[.string ⟨#[112, 111, 115, 105, 120]⟩, .slice (some ⟨g, 0, none⟩) 256 c, .string ⟨lowT.toArray⟩, .string ⟨upT.toArray⟩, .slice none 0 0, .slice none 0 0] 37)).alloc (by simp) (.cells #[.slice ka ks.length kc, .int .i64 sep, .int .i64 fl, .bool uq, .bool st] 24)
  have HB1 := Lib.hid hb1
  clear hb1
  go_enter Tryz.func26, Tryz.ntmps26
  go_wp2_with (go_at_call 20
               (with_reducible refine (HCK.out _ (HK.out.below HB1.out)).mono ?_)
               rintro e w2 ⟨rfl, hb2⟩
               have HB2 := Lib.hid (below_step HB1.out hb2)
               have hbx : Box w2 w.heap.size (.slice (some ⟨g, 0, none⟩) 256 c) := (hb2.block _ (by simp <;> omega)).trans ((Below.heap_alloc _ _ _ (by simp)).trans (heap_alloc_new w _))
               have hsx : SBox w2 (w.heap.size + 1) (.slice ka ks.length kc) ⟨ks, sep, fl, uq, st⟩ := (hb2.block _ (by simp)).trans (alloc2 w _ _)
               replace hbx := Lib.hid hbx
               replace hsx := Lib.hid hsx)
  go_loopw [7, 8] (fun o i wr => ∃ k : Nat, k ≤ ls.length ∧ i = .int .i64 k ∧ Own.Row wr (w.heap.size + 2) 9 1 o k (cellsOf (isort (gt ⟨ks, sep, fl, uq, st⟩) (ls.take k))) ∧ Below w.heap.size w wr ∧ Box wr w.heap.size (.slice (some ⟨g, 0, none⟩) 256 c) ∧ SBox wr (w.heap.size + 1) (.slice ka ks.length kc) ⟨ks, sep, fl, uq, st⟩) (fun _ i _ => ls.length - (intOf i).toNat)
  case atStart => exact ⟨0, Nat.zero_le _, rfl, Own.Row.nil _ _ _ _, HB2.out, hbx.out, hsx.out⟩
  case round =>
    obtain ⟨k, hk, rfl, hro, hbw, hbx, hsx⟩ := hrel
    have HRO := Lib.hid hro
    obtain ⟨oa, oc, rfl⟩ := hro.form
    clear hro
    have HBX := Lib.hid hbx
    have HSX := Lib.hid hsx
    have HBW := Lib.hid hbw
    have hws := hbw.size
    have hlx := hsx.lt
    obtain ⟨-, c1, c2, c3, c4, c5⟩ := hbx.cells
    have c0 := hbx.cells'
    obtain ⟨d0, d1, d2, d3, d4⟩ := hsx.cells
    clear hbx hsx
    by_cases hlt : k < ls.length
    · have hkl : (k : Int) < (ls.length : Int) := by omega
      obtain ⟨bx, ox, rfl, hcx⟩ := hca (by intro e; subst e; simp at hlt)
      have hxs : ls[k]? = some ls[k] := List.getElem?_eq_getElem hlt
      have hx := up hbw (hcx k ls[k] hxs)
      have HXS := Lib.hid hxs
      have HXL := Lib.hid (HF.out ls[k] (List.getElem_mem hlt))
      clear hxs hca hcx
      generalize ls[k] = x at *
      have HINK := Lib.hid (HIN.out k x (by omega) HXL.out (.slice oa k oc) wr.drew (HV.out.below hbw.drew) (HK.out.below hbw.drew) (Strs.of_row HRO.out))
      go_wp2
      go_region_with (first
        | (go_at_call 50
           (with_reducible refine HINK.out.mono ?_)
           rintro e w3 ⟨v3, rfl, hrow3, hb3⟩))
      all_goals
        have hb3' : Below wr.heap.size wr w3 := (Below.refl _ wr).drew.trans hb3
        go_wp2
        go_roundw
        case rel =>
          refine ⟨k + 1, by omega, by go_num, ?_, hbw.trans (hb3'.mono hws), HBX.out.keep (hb3'.block _ HBX.out.lt), HSX.out.keep (hb3'.block _ HSX.out.lt)⟩
          have hr := hrow3.mono (show w.heap.size + 2 ≤ wr.drew.heap.size from hlx)
          rw [← HSTEP.out k x HXS.out, HLEN.out (k + 1) (by omega)] at hr
          exact hr
        case measure => simp [intOf]; omega
    · obtain rfl : k = ls.length := by omega
      have HRO2 := HRO
      rw [List.take_length] at HRO2
      go_wp2_with (go_at_call 51
                   (with_reducible refine (HON.out _ _ (HV.out.below hbw) (HK.out.below hbw) (Strs.of_row HRO2.out)).mono ?_)
                   rintro e w4 ⟨v4, rfl, hrow4, hb4⟩
                   obtain ⟨a4, c4', rfl⟩ := hrow4.form
                   have HR4 := Lib.hid hrow4
                   clear hrow4)
      go_ret
      exact ⟨_, rfl, HR4.out.mono hws, hbw.trans (hb4.mono hws)⟩
end Go.Proofs.YtkekpiillbpciaaGreatDoor.KRefSort
