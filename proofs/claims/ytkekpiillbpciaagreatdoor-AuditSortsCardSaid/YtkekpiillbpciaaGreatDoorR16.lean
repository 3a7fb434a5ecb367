/- KEnv; KClone; KMerge; KOnce; KSort: merged into one text: lemmas for the walk of the law. No condition. -/
import Derived.Test.YtkekpiillbpciaaGreatDoorR14
import Derived.Test.YtkekpiillbpciaaGreatDoorM3
import Derived.Test.YtkekpiillbpciaaGreatDoorM2
import Derived.Test.YtkekpiillbpciaaGreatDoorShelf
import Derived.Test.YtkekpiillbpciaaGreatDoorM1
import Derived.OwnWalk
/- What a sort reads, and what its two functions say of two lines: does a line come after another, are they equal. Strings of at most 65536 bytes. -/
namespace Go.Proofs.YtkekpiillbpciaaGreatDoor.KEnv
open Go Go.RowKit KeyMath KeyVals Strs KLoc KRefCmp KSpec
set_option maxRecDepth 100000
/-- the locale and the specification, each in a block of its own -/
structure Env (w : World) (bl bp : Nat) (v sv : Value) (p : SortSpec) : Prop where
  wts : Wts w v
  keys : Keys w sv p.keys
  box : Box w bl v
  spec : SBox w bp sv p
theorem Env.below {w w' : World} {bl bp : Nat} {v sv : Value} {p : SortSpec} (h : Env w bl bp v sv p) (hb : Below w.heap.size w w') : Env w' bl bp v sv p :=
  ⟨h.wts.below hb, h.keys.below hb, h.box.keep (hb.block _ h.box.lt), h.spec.keep (hb.block _ h.spec.lt)⟩
theorem order_any (v sv : Value) (p : SortSpec) (x y : Str) (w : World) (hv : Wts w v) (hk : Keys w sv p.keys) (h0 : check p = 0) (hx : x.length ≤ 65536) (hy : y.length ≤ 65536) :
    Calls Tryz.prog 35 #[.agg #[posix, v, .string ⟨lowT.toArray⟩, .string ⟨upT.toArray⟩, .slice none 0 0, .slice none 0 0], specVal sv p, .string ⟨x.toArray⟩, .string ⟨y.toArray⟩] w fun e w' => e = .returned (.int .i64 (order p x y)) ∧ Below w.heap.size w w' :=
  order_of sv v p ⟨x.toArray⟩ ⟨y.toArray⟩ w hv hk h0 hx hy fun W hW hK => KCompare.cmp_any sv v p _ _ W hW hK h0 hx hy
theorem cmp_any (v sv : Value) (p : SortSpec) (x y : Str) (w : World) (hv : Wts w v) (hk : Keys w sv p.keys) (h0 : check p = 0) (hx : x.length ≤ 65536) (hy : y.length ≤ 65536) :
    Calls Tryz.prog 40 #[.agg #[posix, v, .string ⟨lowT.toArray⟩, .string ⟨upT.toArray⟩, .slice none 0 0, .slice none 0 0], specVal sv p, .string ⟨x.toArray⟩, .string ⟨y.toArray⟩] w fun e w' => e = .returned (.int .i64 (compare p x y)) ∧ Below w.heap.size w w' :=
  KCompare.cmp_any sv v p ⟨x.toArray⟩ ⟨y.toArray⟩ w hv hk h0 hx hy
set_option maxHeartbeats 4000000 in
theorem after_any (bl bp : Nat) (v sv : Value) (p : SortSpec) (x y : Str) (w : World) (he : Env w bl bp v sv p) (h0 : check p = 0) (hx : x.length ≤ 65536) (hy : y.length ≤ 65536) :
    Calls Tryz.prog 43 #[.string ⟨x.toArray⟩, .string ⟨y.toArray⟩, .pointer (some ⟨bl, 0, none⟩), .pointer (some ⟨bp, 0, none⟩)] w fun e w' => e = .returned (.bool (gt p x y)) ∧ Below w.heap.size w w' := by
  have HO := Lib.hid (fun W hW hK => order_any v sv p x y W hW hK h0 hx hy)
  have HE := Lib.hid he
  obtain ⟨-, c1, c2, c3, c4, c5⟩ := he.box.cells
  have c0 := he.box.cells'
  obtain ⟨d0, d1, d2, d3, d4⟩ := he.spec.cells
  have l1 := he.box.lt
  have l2 := he.spec.lt
  have hgt : gt p x y = decide (0 < order p x y) := rfl
  have HG := Lib.hid hgt
  obtain ⟨⟨g, c, rfl, hgc, hcell⟩, ⟨a, kc, rfl, -⟩, -, -⟩ := he
  clear hcell hgt
  unfold posix specVal at *
  generalize order p x y = C at *
  go_enter Tryz.func43, Tryz.ntmps43
  go_wp2_with (go_at_call 35; (with_reducible refine (HO.out _ HE.out.wts HE.out.keys).mono ?_); rintro e w2 ⟨rfl, hb2⟩)
  go_ret
  exact ⟨by rw [HG.out]; rfl, hb2⟩
set_option maxHeartbeats 4000000 in
theorem equal_any (bl bp : Nat) (v sv : Value) (p : SortSpec) (x y : Str) (w : World) (he : Env w bl bp v sv p) (h0 : check p = 0) (hx : x.length ≤ 65536) (hy : y.length ≤ 65536) :
    Calls Tryz.prog 45 #[.string ⟨x.toArray⟩, .string ⟨y.toArray⟩, .pointer (some ⟨bl, 0, none⟩), .pointer (some ⟨bp, 0, none⟩)] w fun e w' => e = .returned (.bool (compare p x y == 0)) ∧ Below w.heap.size w w' := by
  have HO := Lib.hid (fun W hW hK => cmp_any v sv p x y W hW hK h0 hx hy)
  have HE := Lib.hid he
  obtain ⟨-, c1, c2, c3, c4, c5⟩ := he.box.cells
  have c0 := he.box.cells'
  obtain ⟨d0, d1, d2, d3, d4⟩ := he.spec.cells
  have l1 := he.box.lt
  have l2 := he.spec.lt
  obtain ⟨⟨g, c, rfl, hgc, hcell⟩, ⟨a, kc, rfl, -⟩, -, -⟩ := he
  clear hcell
  unfold posix specVal at *
  generalize compare p x y = C at *
  go_enter Tryz.func45, Tryz.ntmps45
  go_wp2_with (go_at_call 40; (with_reducible refine (HO.out _ HE.out.wts HE.out.keys).mono ?_); rintro e w2 ⟨rfl, hb2⟩)
  go_ret
  exact ⟨rfl, hb2⟩
end Go.Proofs.YtkekpiillbpciaaGreatDoor.KEnv

/- A copy of a slice of lines. -/
namespace Go.Proofs.YtkekpiillbpciaaGreatDoor.KClone
open Go Go.RowKit KeyMath Strs
set_option maxRecDepth 100000
/-- what Clone returns -/
def ClPost (w : World) (xs : List Str) (e : Ending) (w' : World) : Prop := ∃ v', e = .returned v' ∧ Own.Row w' w.heap.size 9 1 v' xs.length (cellsOf xs) ∧ Below w.heap.size w w'
theorem clone_any (a : Value) (xs : List Str) (w : World) (ha : Strs w a xs) (hn : xs.length ≤ 65536) :
    Calls Tryz.prog 41 #[a] w (ClPost w xs) := by
  obtain ⟨aa, c, rfl, hm, hc⟩ := ha
  by_cases h0 : xs = []
  · subst h0
    rcases aa with _ | ad
    · refine (Tryz.slices_Clone_string_nil _ c w).mono ?_
      rintro e w' ⟨rfl, rfl⟩
      exact ⟨_, rfl, Own.Row.nil _ _ _ _, Below.refl _ _⟩
    · refine (Tryz.slices_Clone_string_zero ad c w).mono ?_
      rintro e w' ⟨v', rfl, hrow, -, hb⟩
      exact ⟨v', rfl, Own.Row.of hrow, hb⟩
  · obtain ⟨b, off, rfl, hcell⟩ := hc h0
    refine (Tryz.slices_Clone_string b off xs.length c (xs.map fun x => ⟨x.toArray⟩) w (by simp) (by omega) ?_).mono ?_
    · intro j hj
      simp at hj
      have := hcell j xs[j] (List.getElem?_eq_getElem hj)
      rw [this]
      simp [hj]
    · rintro e w' ⟨v', rfl, hrow, -, hb⟩
      refine ⟨v', rfl, ?_, hb⟩
      have hr := Own.Row.of hrow
      have e : ((xs.map fun x => (⟨x.toArray⟩ : ByteArray)).take xs.length).map (Value.string) = cellsOf xs := by
        rw [List.take_of_length_le (by simp), List.map_map]
        rfl
      rw [e] at hr
      exact hr
end Go.Proofs.YtkekpiillbpciaaGreatDoor.KClone

/- Sorting lines by halves: what the program's mergeSort returns. At most 65536 lines of at most 65536 bytes. -/
namespace Go.Proofs.YtkekpiillbpciaaGreatDoor.KMerge
open Go Go.RowKit KeyMath KeyVals Strs KLoc KRefCmp KSpec KEnv SortMath
set_option maxRecDepth 100000
theorem str_info : (Tryz.prog.info? 9).map (fun i => (i.zero, i.size, i.bytes)) = some (some (.string ⟨#[]⟩), 1, 16) := by kernel_rfl
/-- what a sort leaves -/
def MPost (w : World) (xs : List Str) (e : Ending) (w' : World) : Prop := ∃ v', e = .returned v' ∧ Own.Row w' w.heap.size 9 1 v' xs.length (cellsOf xs) ∧ Below w.heap.size w w'
/-- the lines are short -/
def Fit (xs : List Str) : Prop := ∀ x ∈ xs, x.length ≤ 65536
theorem cellsOf_one (ls : List Str) : ∀ u ∈ cellsOf ls, u.oneCell' = true := by
  intro u hu
  obtain ⟨b, _, rfl⟩ := List.mem_map.1 hu
  rfl
theorem strs_src {w : World} {a : Option Addr} {n c : Nat} {ls : List Str} (h : Strs w (.slice a n c) ls) : cellsOf ls ≠ [] → ∃ b off, a = some ⟨b, off, none⟩ ∧ ∀ j u, (cellsOf ls)[j]? = some u → w.cell? ⟨b, off + j, none⟩ = some u := by
  intro hne
  obtain ⟨a', c', e, -, hc⟩ := h
  injection e with e1
  subst e1
  obtain ⟨b, off, rfl, hcell⟩ := hc (by intro e; subst e; exact hne rfl)
  refine ⟨b, off, rfl, fun j u hj => ?_⟩
  unfold cellsOf at hj
  rw [List.getElem?_map] at hj
  cases hx : ls[j]? with
  | none => rw [hx] at hj; cases hj
  | some x =>
    rw [hx] at hj
    have := hcell j x hx
    cases hj
    exact this
theorem strs_form {w : World} {v : Value} {ls : List Str} (h : Strs w v ls) : ∃ a c, v = .slice a ls.length c ∧ ls.length ≤ c := by
  obtain ⟨a, c, e, hm, -⟩ := h
  exact ⟨a, c, e, hm.1⟩
/-- the first of a slice of strings -/
theorem strs_first {w : World} {a : Option Addr} {n c : Nat} {x : Str} {r : List Str} (h : Strs w (.slice a n c) (x :: r)) : ∃ b off, a = some ⟨b, off, none⟩ ∧ w.cell? ⟨b, off, none⟩ = some (.string ⟨x.toArray⟩) := by
  obtain ⟨a', c', e, -, hc⟩ := h
  injection e with e1
  subst e1
  obtain ⟨b, off, rfl, hcell⟩ := hc (by simp)
  exact ⟨b, off, rfl, by simpa using hcell 0 x rfl⟩
def sliceLen : Value → Nat
  | .slice _ n _ => n
  | _ => 0
set_option maxHeartbeats 16000000 in
theorem merge_any (bl bp : Nat) (v sv : Value) (p : SortSpec) (h0 : check p = 0) : ∀ (N : Nat) (ls : List Str) (a : Value) (w : World), ls.length ≤ N → ls.length ≤ 65536 → Fit ls → Strs w a ls → Env w bl bp v sv p →
    Calls Tryz.prog 42 #[a, .func (.func 43) #[] #[.pointer (some ⟨bl, 0, none⟩), .pointer (some ⟨bp, 0, none⟩)]] w (MPost w (isort (gt p) ls)) := by
  intro N
  induction N with
  | zero =>
    intro ls a w hN _ _ ha _
    obtain rfl : ls = [] := List.eq_nil_of_length_eq_zero (by omega)
    obtain ⟨aa, c, rfl, -⟩ := strs_form ha
    have HCL := Lib.hid (fun W hW => KClone.clone_any (.slice aa 0 c) [] W hW (by simp))
    have HA := Lib.hid ha
    simp only [List.length_nil] at HA HCL
    go_enter Tryz.func42, Tryz.ntmps42
    go_wp2_with (go_at_call 41; (with_reducible refine (HCL.out _ HA.out).mono ?_); rintro e w2 ⟨v2, rfl, hrow, hb⟩; obtain ⟨va, vc, rfl⟩ := hrow.form)
    go_ret
    exact ⟨_, rfl, hrow, hb⟩
  | succ N ih =>
    intro ls a w hN hL hfit ha he
    obtain ⟨aa, c, rfl, hac⟩ := strs_form ha
    by_cases h2 : ls.length < 2
    · have HCL := Lib.hid (fun W hW => KClone.clone_any (.slice aa ls.length c) ls W hW hL)
      have HA := Lib.hid ha
      have h2' : (ls.length : Int) < 2 := by omega
      have HI : Hid (isort (gt p) ls = ls) := isort_short h2
      clear h2 ih
      go_enter Tryz.func42, Tryz.ntmps42
      go_wp2_with (go_at_call 41; (with_reducible refine (HCL.out _ HA.out).mono ?_); rintro e w2 ⟨v2, rfl, hrow, hb⟩; obtain ⟨va, vc, rfl⟩ := hrow.form)
      go_ret
      rw [HI.out]
      exact ⟨_, rfl, hrow, hb⟩
    · obtain ⟨H, hH⟩ : ∃ H : Nat, H = ls.length / 2 := ⟨_, rfl⟩
      have hHl : H ≤ ls.length := by omega
      obtain ⟨a1, hsl1, hst1⟩ := KSub.head ha H hHl
      obtain ⟨a2, c2, hsl2, hst2⟩ := KSub.tail ha H hHl
      have l1 : (ls.take H).length = H := by simp; omega
      have l2 : (ls.drop H).length = ls.length - H := by simp
      have IH1 := Lib.hid (fun W hW hE => ih (ls.take H) (.slice a1 H c) W (by omega) (by omega) (fun x hx => hfit x (List.mem_of_mem_take hx)) hW hE)
      have IH2 := Lib.hid (fun W hW hE => ih (ls.drop H) (.slice a2 (ls.length - H) c2) W (by omega) (by omega) (fun x hx => hfit x (List.mem_of_mem_drop hx)) hW hE)
      have HS1 := Lib.hid hst1
      have HS2 := Lib.hid hst2
      have HA := Lib.hid (show Strs w.drew (.slice aa ls.length c) ls from ha)
      have HE := Lib.hid (show Env w.drew bl bp v sv p from he.below (Below.refl _ _).drew)
      have HI := Lib.hid (isort_half (gt_weak p) ls H)
      have hdiv : (ls.length : Int) / 2 = (H : Int) := by omega
      have h2' : ¬ (ls.length : Int) < 2 := by omega
      have HD := Lib.hid (Below.refl w.heap.size w).drew
      have hH2 : 2 * H ≤ ls.length ∧ ls.length ≤ 2 * H + 1 := by omega
      replace l1 := Lib.hid l1
      replace l2 := Lib.hid l2
      clear hst1 hst2 ih h2 ha he hH
      go_enter Tryz.func42, Tryz.ntmps42
      go_wp2
      go_region_with (first
        | (go_at_call_of 42 (Value.slice a1 H c)
           (with_reducible refine (IH1.out _ (HS1.out _ (by first | exact HA.out | exact HA.out.below hbb)) (by first | exact HE.out | exact HE.out.below hbb)).mono ?_)
           rintro e wa ⟨va, rfl, hra, hba⟩)
        | (go_at_call_of 42 (Value.slice a2 (ls.length - H) c2)
           (with_reducible refine (IH2.out _ (HS2.out _ (by first | exact HA.out | exact HA.out.below hba)) (by first | exact HE.out | exact HE.out.below hba)).mono ?_)
           rintro e wb ⟨vb, rfl, hrb, hbb⟩))
      -- THE LOOP
      have HBW0 := Lib.hid (HD.out.trans ((hba.trans (hbb.mono hba.size)).mono (Nat.le_refl _)))
      have HSA0 := Lib.hid ((Strs.of_row hra).below hbb)
      have HSB0 := Lib.hid (Strs.of_row hrb)
      have HEB := Lib.hid ((HE.out.below hba).below hbb)
      have hna : (isort (gt p) (ls.take H)).length = H := by rw [length_isort]; exact l1.out
      have hnb : (isort (gt p) (ls.drop H)).length = ls.length - H := by rw [length_isort]; exact l2.out
      have HFA : Hid (Fit (isort (gt p) (ls.take H))) := fun x hx => hfit x (List.mem_of_mem_take ((mem_isort _ _).1 hx))
      have HFB : Hid (Fit (isort (gt p) (ls.drop H))) := fun x hx => hfit x (List.mem_of_mem_drop ((mem_isort _ _).1 hx))
      have HSRA := Lib.hid (srt_isort (gt_weak p) (ls.take H))
      have HSRB := Lib.hid (srt_isort (gt_weak p) (ls.drop H))
      have HFIT := Lib.hid hfit
      obtain ⟨xa0, ca0, rfl⟩ := hra.form
      obtain ⟨xb0, cb0, rfl⟩ := hrb.form
      obtain ⟨i0, hi, hz0, hz1, hz2⟩ := info_parts str_info
      have HZ2 := Lib.hid hz2
      generalize isort (gt p) (ls.take H) = la0 at *
      generalize isort (gt p) (ls.drop H) = lb0 at *
      have HSUM := Lib.hid (show la0.length + lb0.length = ls.length by omega)
      clear hra hrb hba hbb hna hnb hfit IH1 IH2 HS1 HS2 HA HE HD l1 l2
      go_wp2_with (at_make
                   refine wpList_make_own _ rfl _ _ _ rfl wb.heap.size 9 i0 _ 1 Tryz.underlying25 hi hz0 hz1 .i64 .i64 _ ls.length rfl rfl rfl (by rw [HZ2.out]; omega) (by unfold maxLen; omega) (Nat.le_refl _) ?_
                   intro w3 hrow3 hg3
                   have HR3 := Lib.hid (Own.Row.of hrow3)
                   have HB3 : Hid (Below wb.heap.size wb w3) := (Below.refl _ _).grown hg3 (Nat.le_refl _) (fun z hz => by cases hz)
                   clear hrow3 hg3)
      go_loopw [6, 7, 8] (fun a b o wr => ∃ la lb os : List Str, Strs wb a la ∧ Strs wb b lb ∧ Own.Row wr wb.heap.size 9 1 o os.length (cellsOf os) ∧ Below wb.heap.size wb wr ∧ Hid (Srt (gt p) la) ∧ Hid (Srt (gt p) lb) ∧ Hid (Fit la) ∧ Hid (Fit lb) ∧ Hid (os.length + la.length + lb.length = ls.length) ∧ Hid (isort (gt p) ls = os ++ insAll (gt p) la lb)) (fun a b _ _ => sliceLen a + sliceLen b)
      case atStart => exact ⟨la0, lb0, [], HSA0.out, HSB0.out, HR3.out, HB3.out, HSRA.out, HSRB.out, HFA.out, HFB.out, by have := HSUM.out; show _ = _; simp; omega, HI.out⟩
      case round =>
        obtain ⟨la, lb, os, hsa, hsb, hro, hbw, HSLA, HSLB, HFLA, HFLB, HSM, HE3⟩ := hrel
        obtain ⟨xa, ca, rfl, hca⟩ := strs_form hsa
        obtain ⟨xb, cb, rfl, hcb⟩ := strs_form hsb
        have HSA := Lib.hid (hsa.below hbw)
        have HSBW := Lib.hid hsb
        have HSAW := Lib.hid hsa
        have HRO := Lib.hid hro
        have hbs := hbw.size
        have hsm1 := Nat.le_of_eq HSM.out
        have hsm2 := Nat.le_of_eq HSM.out.symm
        have HEW := Lib.hid (HEB.out.below hbw)
        obtain ⟨va8, vc8, rfl⟩ := hro.form
        clear hsa hsb hro
        rcases la with _ | ⟨x, ra⟩
        · simp only [List.length_nil] at *

          go_wp2_with (first
            | (at_builtin
               refine Own.wpList_append_all wr rfl _ _ 25 rfl wb.heap.size 9 i0 (.string ⟨#[]⟩) 16 Tryz.underlying25 hi hz0 hz1 hz2 rfl _ os.length (cellsOf os) rfl HRO.out xa 0 ca (cellsOf []) rfl (by simp [cellsOf_length]) (strs_src HSA.out) (cellsOf_one _) (by unfold maxLen; omega) (by omega) hbs ?_
               intro v5 w5 hrow5 hg5 hb5
               have HSB5 := Lib.hid (HSBW.out.below (hbw.trans (hb5.mono (Nat.le_refl _))))
               have HR5 := Lib.hid hrow5
               have HB5 := Lib.hid (hbw.trans hb5)
               obtain ⟨v5a, v5c, rfl⟩ := hrow5.form
               clear hrow5)
            | (at_builtin
               refine Own.wpList_append_all w5 rfl _ _ 25 rfl wb.heap.size 9 i0 (.string ⟨#[]⟩) 16 Tryz.underlying25 hi hz0 hz1 hz2 rfl _ (os.length + 0) (cellsOf os ++ cellsOf []) rfl HR5.out xb lb.length cb (cellsOf lb) rfl (by simp [cellsOf_length]) (strs_src HSB5.out) (cellsOf_one _) (by unfold maxLen; omega) (by omega) HB5.out.size ?_
               intro v6 w6 hrow6 hg6 hb6
               have HR6 := Lib.hid hrow6
               have HB6 := Lib.hid (HB5.out.trans hb6)
               obtain ⟨v6a, v6c, rfl⟩ := hrow6.form
               clear hrow6))
          go_ret
          have hfin : isort (gt p) ls = os ++ ([] ++ lb) := by rw [HE3.out]; exact congrArg (os ++ ·) ((insAll_nil_left (gt_weak p) HSLB.out).trans rfl)
          rw [hfin]
          refine ⟨_, rfl, ?_, HBW0.out.trans (HB6.out.mono HBW0.out.size)⟩
          have hr := HR6.out.mono HBW0.out.size
          rw [← cellsOf_append, ← cellsOf_append, List.append_assoc] at hr
          simpa [Nat.add_assoc] using hr
        · rcases lb with _ | ⟨y, rb⟩
          · simp only [List.length_nil, List.length_cons] at *

            go_wp2_with (first
              | (at_builtin
                 refine Own.wpList_append_all wr rfl _ _ 25 rfl wb.heap.size 9 i0 (.string ⟨#[]⟩) 16 Tryz.underlying25 hi hz0 hz1 hz2 rfl _ os.length (cellsOf os) rfl HRO.out xa (ra.length + 1) ca (cellsOf (x :: ra)) rfl (by simp [cellsOf_length]) (strs_src HSA.out) (cellsOf_one _) (by unfold maxLen; omega) (by omega) hbs ?_
                 intro v5 w5 hrow5 hg5 hb5
                 have HSB5 := Lib.hid (HSBW.out.below (hbw.trans (hb5.mono (Nat.le_refl _))))
                 have HR5 := Lib.hid hrow5
                 have HB5 := Lib.hid (hbw.trans hb5)
                 obtain ⟨v5a, v5c, rfl⟩ := hrow5.form
                 clear hrow5)
              | (at_builtin
                 refine Own.wpList_append_all w5 rfl _ _ 25 rfl wb.heap.size 9 i0 (.string ⟨#[]⟩) 16 Tryz.underlying25 hi hz0 hz1 hz2 rfl _ (os.length + (ra.length + 1)) (cellsOf os ++ cellsOf (x :: ra)) rfl HR5.out xb 0 cb (cellsOf []) rfl (by simp [cellsOf_length]) (strs_src HSB5.out) (cellsOf_one _) (by unfold maxLen; omega) (by omega) HB5.out.size ?_
                 intro v6 w6 hrow6 hg6 hb6
                 have HR6 := Lib.hid hrow6
                 have HB6 := Lib.hid (HB5.out.trans hb6)
                 obtain ⟨v6a, v6c, rfl⟩ := hrow6.form
                 clear hrow6))
            go_ret
            have hfin : isort (gt p) ls = os ++ ((x :: ra) ++ []) := by rw [HE3.out]; exact congrArg (os ++ ·) ((List.append_nil _).symm)
            rw [hfin]
            refine ⟨_, rfl, ?_, HBW0.out.trans (HB6.out.mono HBW0.out.size)⟩
            have hr := HR6.out.mono HBW0.out.size
            rw [← cellsOf_append, ← cellsOf_append, List.append_assoc] at hr
            simpa [Nat.add_assoc] using hr
          · have HSB := Lib.hid (HSBW.out.below hbw)
            obtain ⟨ba, oa, rfl, hcx⟩ := strs_first HSA.out
            obtain ⟨bB, oB, rfl, hcy⟩ := strs_first HSB.out
            obtain ⟨a9, c9, hsl9, hst9⟩ := KSub.tail HSAW.out 1 (by simp)
            obtain ⟨a10, c10, hsl10, hst10⟩ := KSub.tail HSBW.out 1 (by simp)
            have HAF := Lib.hid (fun W hW => after_any bl bp v sv p x y W hW h0 (HFLA.out x (by simp)) (HFLB.out y (by simp)))
            have HT9 := Lib.hid (hst9 wb HSAW.out)
            have HT10 := Lib.hid (hst10 wb HSBW.out)
            have HSTEP := Lib.hid (insAll_step (gt_weak p) HSLA.out HSLB.out)
            have hia := World.block_lt_of_cell? wr _ hcx
            have hib := World.block_lt_of_cell? wr _ hcy
            have hwr0 := hbw.size
            simp only [List.length_cons, Nat.add_sub_cancel, List.drop_succ_cons, List.drop_zero] at *
            clear hst9 hst10
            simp only [Int.cast_ofNat_Int] at hsl9 hsl10
            have hcast1 : (0 : Int) < (ra.length : Int) + 1 := by omega
            have hcast2 : (0 : Int) < (rb.length : Int) + 1 := by omega
            go_wp2
            refine KCompare.enter (by kernel_rfl) (by kernel_rfl) ?_
            intro X F hN hBF hF
            have c1 : ∀ z, (F z).cell? ⟨ba, oa, none⟩ = some (.string ⟨x.toArray⟩) := fun z => up (hBF z) hcx
            have c2 : ∀ z, (F z).cell? ⟨bB, oB, none⟩ = some (.string ⟨y.toArray⟩) := fun z => up (hBF z) hcy
            have HEF : Hid (∀ z, Env (F z) bl bp v sv p) := fun z => HEW.out.below (hBF z)
            have HBF := Lib.hid hBF
            clear hBF
            repeat go_big_quiet_step (first
              | (go_at_call 43
                 (with_reducible refine (HAF.out _ (HEF.out _)).mono ?_)
                 rintro e w1 ⟨rfl, hb1⟩
                 exact ⟨rfl, hF _ _ hb1⟩))
            refine wpQuiet_nil ?_
            rintro _ ⟨z, rfl⟩
            have hRO2 := Lib.hid (HRO.out.below (HBF.out z))
            have hBW2 := Lib.hid (hbw.trans ((HBF.out z).mono hbs))
            have c3 := c1 z
            have c4 := c2 z
            have hzz1 : wb.heap.size ≤ (F z).heap.size := hBW2.out.size
            have hzr := (HBF.out z).size
            rcases hgt : gt p x y with _ | _
            · rw [hgt] at HSTEP
              go_wp2_with (at_builtin
                           refine Own.wpList_append_one (F z) rfl _ _ 25 rfl wb.heap.size 9 i0 (.string ⟨#[]⟩) 16 Tryz.underlying25 hi hz0 hz1 hz2 rfl (.slice va8 os.length vc8) os.length (cellsOf os) rfl hRO2.out _ rfl rfl (by unfold maxLen; omega) (by omega) hzz1 ?_
                           intro v5 w5 hrow5 hg5 hb5
                           have HR5 := Lib.hid hrow5
                           have HB5 := Lib.hid (hBW2.out.trans hb5)
                           clear hrow5)
              go_roundw
              case rel =>
                refine ⟨ra, y :: rb, os ++ [x], HT9.out, HSBW.out, ?_, HB5.out, (List.pairwise_cons.1 HSLA.out).2, HSLB.out, fun z hz => HFLA.out z (List.mem_cons_of_mem _ hz), HFLB.out, ?_, ?_⟩
                · rw [cellsOf_append, List.length_append]
                  exact HR5.out
                · have := HSM.out
                  show _ = _
                  simp
                  omega
                · show _ = _
                  rw [HE3.out, HSTEP.out, List.append_assoc]
                  rfl
              case measure => simp [sliceLen]
            · rw [hgt] at HSTEP
              go_wp2_with (at_builtin
                           refine Own.wpList_append_one (F z) rfl _ _ 25 rfl wb.heap.size 9 i0 (.string ⟨#[]⟩) 16 Tryz.underlying25 hi hz0 hz1 hz2 rfl (.slice va8 os.length vc8) os.length (cellsOf os) rfl hRO2.out _ rfl rfl (by unfold maxLen; omega) (by omega) hzz1 ?_
                           intro v5 w5 hrow5 hg5 hb5
                           have HR5 := Lib.hid hrow5
                           have HB5 := Lib.hid (hBW2.out.trans hb5)
                           clear hrow5)
              go_roundw
              case rel =>
                refine ⟨x :: ra, rb, os ++ [y], HSAW.out, HT10.out, ?_, HB5.out, HSLA.out, (List.pairwise_cons.1 HSLB.out).2, HFLA.out, fun z hz => HFLB.out z (List.mem_cons_of_mem _ hz), ?_, ?_⟩
                · rw [cellsOf_append, List.length_append]
                  exact HR5.out
                · have := HSM.out
                  show _ = _
                  simp
                  omega
                · show _ = _
                  rw [HE3.out, HSTEP.out, List.append_assoc]
                  rfl
              case measure => simp [sliceLen]
end Go.Proofs.YtkekpiillbpciaaGreatDoor.KMerge

/- Lines without those that are equal to the one kept last: what the program's once returns. At most 65536 lines of at most 65536 bytes. -/
namespace Go.Proofs.YtkekpiillbpciaaGreatDoor.KMerge
open Go Go.RowKit KeyMath KeyVals ScanMath Strs KLoc KRefCmp KSpec KEnv SortMath
set_option maxRecDepth 100000
theorem fit_snoc {os : List Str} {x : Str} (h : Fit os) (hx : x.length ≤ 65536) : Fit (os ++ [x]) := by
  intro y hy
  rcases List.mem_append.1 hy with hy | hy
  · exact h y hy
  · obtain rfl := List.mem_singleton.1 hy
    exact hx
/-- the last of a row of strings -/
theorem row_last {w : World} {base : Nat} {v : Value} {os : List Str} {y : Str} (h : Own.Row w base 9 1 v (os ++ [y]).length (cellsOf (os ++ [y]))) :
    ∃ g cap, v = .slice (some ⟨g, 0, none⟩) (os.length + 1) cap ∧ w.cell? ⟨g, os.length, none⟩ = some (.string ⟨y.toArray⟩) ∧ g < w.heap.size := by
  obtain ⟨g, cap, rfl, -, hg, -, hc, -⟩ := h.here (by simp)
  refine ⟨g, cap, by simp, hc _ _ ?_, hg⟩
  rw [cellsOf_append]
  simp [cellsOf]
set_option maxHeartbeats 16000000 in
theorem once_any (bl bp : Nat) (v sv : Value) (p : SortSpec) (h0 : check p = 0) (ls : List Str) (a : Value) (w : World) (hL : ls.length ≤ 65536) (hfit : Fit ls) (ha : Strs w a ls) (he : Env w bl bp v sv p) :
    Calls Tryz.prog 44 #[a, .func (.func 45) #[] #[.pointer (some ⟨bl, 0, none⟩), .pointer (some ⟨bp, 0, none⟩)]] w (MPost w (onceTo p [] ls)) := by
  obtain ⟨i0, hi, hz0, hz1, hz2⟩ := info_parts str_info
  obtain ⟨aa, ca, rfl, hma0, hca⟩ := ha
  have hma : ls.length ≤ 2 ^ 63 - 1 := Nat.le_trans hma0.1 hma0.2
  have HE := Lib.hid he
  have HF := Lib.hid hfit
  clear hma0 he hfit
  go_enter Tryz.func44, Tryz.ntmps44
  go_wp2
  go_loopw [5, 10] (fun o i wr => ∃ (k : Nat) (os : List Str), k ≤ ls.length ∧ i = .int .i64 k ∧ os.length ≤ k ∧ Own.Row wr w.heap.size 9 1 o os.length (cellsOf os) ∧ Below w.heap.size w wr ∧ Hid (Fit os) ∧ Hid (onceTo p [] ls = onceTo p os (ls.drop k))) (fun _ i _ => ls.length - (intOf i).toNat)
  case atStart => exact ⟨0, [], Nat.zero_le _, rfl, Nat.le_refl _, Own.Row.nil _ _ _ _, Below.refl _ _, (fun x hx => by cases hx), rfl⟩
  case round =>
    obtain ⟨k, os, hk, rfl, hos, hro, hbw, HFO, HN⟩ := hrel
    have HRO := Lib.hid hro
    have hbs := hbw.size
    by_cases hlt : k < ls.length
    · have hkl : (k : Int) < (ls.length : Int) := by omega
      obtain ⟨bx, ox, rfl, hcx⟩ := hca (by intro e; subst e; simp at hlt)
      have hxs : ls[k]? = some ls[k] := List.getElem?_eq_getElem hlt
      have hx := up hbw (hcx k ls[k] hxs)
      have HXS := Lib.hid hxs
      have HXL := Lib.hid (HF.out ls[k] (List.getElem_mem hlt))
      have HEW := Lib.hid (HE.out.below hbw)
      clear hxs hca hcx
      generalize ls[k] = x at *
      rcases List.eq_nil_or_concat os with rfl | ⟨oi, y, rfl⟩
      · obtain ⟨ov, oc, rfl⟩ := hro.form
        have HN2 : Hid (onceTo p [] ls = onceTo p [x] (ls.drop (k + 1))) := by
          show _ = _
          rw [HN.out, drop_cons HXS.out, onceTo_first]
        simp only [List.length_nil] at *
        clear hro
        go_wp2_with (at_builtin
                     refine Own.wpList_append_one wr rfl _ _ 25 rfl w.heap.size 9 i0 (.string ⟨#[]⟩) 16 Tryz.underlying25 hi hz0 hz1 hz2 rfl (.slice ov 0 oc) 0 (cellsOf []) rfl HRO.out _ rfl rfl (by unfold maxLen; omega) (by omega) hbs ?_
                     intro v5 w5 hrow5 hg5 hb5
                     have HR5 := Lib.hid hrow5
                     have HB5 := Lib.hid (hbw.trans hb5)
                     clear hrow5)
        go_roundw
        case rel => exact ⟨k + 1, [x], by omega, by go_num, by simp, HR5.out, HB5.out, fit_snoc (os := []) HFO.out HXL.out, HN2.out⟩
        case measure => simp [intOf]; omega
      · rw [List.concat_eq_append] at *
        obtain ⟨og, oc, rfl, hcy, hgl⟩ := row_last hro
        have HEQ := Lib.hid (fun W hW => equal_any bl bp v sv p y x W hW h0 (HFO.out y (by simp)) HXL.out)
        have hlen : (oi ++ [y]).length = oi.length + 1 := by simp
        have HRO2 := HRO
        rw [hlen] at HRO2 hos
        clear hro HRO hlen
        have hlast : (oi ++ [y]).getLast? = some y := by simp
        rcases hcmp : (KeyMath.compare p y x == 0) with _ | _
        · have HN2 : Hid (onceTo p [] ls = onceTo p (oi ++ [y] ++ [x]) (ls.drop (k + 1))) := by
            show _ = _
            rw [HN.out, drop_cons HXS.out, onceTo_add hlast (by simpa using hcmp)]
          rw [hcmp] at HEQ
          clear hlast
          go_wp2_with (first
            | (go_at_call 45
               (with_reducible refine (HEQ.out _ HEW.out).mono ?_)
               rintro e w4 ⟨rfl, hb4⟩
               have hb4s : w.heap.size ≤ w4.heap.size := Nat.le_trans hbs hb4.size
               have HRO4 := Lib.hid (HRO2.out.below hb4)
               have HBW4 := Lib.hid (hbw.trans (hb4.mono hbs)))
            | (at_builtin
               refine Own.wpList_append_one w4 rfl _ _ 25 rfl w.heap.size 9 i0 (.string ⟨#[]⟩) 16 Tryz.underlying25 hi hz0 hz1 hz2 rfl (.slice (some ⟨og, 0, none⟩) (oi.length + 1) oc) (oi.length + 1) (cellsOf (oi ++ [y])) rfl HRO4.out _ rfl rfl (by unfold maxLen; omega) (by omega) hb4s ?_
               intro v5 w5 hrow5 hg5 hb5
               have HR5 := Lib.hid hrow5
               have HB5 := Lib.hid (HBW4.out.trans hb5)
               clear hrow5))
          go_roundw
          case rel =>
            refine ⟨k + 1, oi ++ [y] ++ [x], by omega, by go_num, by simp; omega, ?_, HB5.out, fit_snoc HFO.out HXL.out, HN2.out⟩
            rw [cellsOf_append, List.length_append, show cellsOf [x] = [.string ⟨x.toArray⟩] from rfl]
            simpa using HR5.out
          case measure => simp [intOf]; omega
        · have HN2 : Hid (onceTo p [] ls = onceTo p (oi ++ [y]) (ls.drop (k + 1))) := by
            show _ = _
            rw [HN.out, drop_cons HXS.out, onceTo_skip hlast (by simpa using hcmp)]
          rw [hcmp] at HEQ
          clear hlast
          go_wp2_with (go_at_call 45
                       (with_reducible refine (HEQ.out _ HEW.out).mono ?_)
                       rintro e w4 ⟨rfl, hb4⟩
                       have HRO4 := Lib.hid (HRO2.out.below hb4)
                       have HBW4 := Lib.hid (hbw.trans (hb4.mono hbs)))
          go_roundw
          case rel => exact ⟨k + 1, oi ++ [y], by omega, by go_num, by simp; omega, by simpa using HRO4.out, HBW4.out, HFO.out, HN2.out⟩
          case measure => simp [intOf]; omega
    · obtain rfl : k = ls.length := by omega
      have HN2 : Hid (onceTo p [] ls = os) := by
        show _ = _
        rw [HN.out, List.drop_length, onceTo_nil]
      obtain ⟨ov, oc, rfl⟩ := hro.form
      clear hca hro
      go_wp2
      go_ret
      refine ⟨_, rfl, ?_, hbw⟩
      rw [HN2.out]
      exact HRO.out
end Go.Proofs.YtkekpiillbpciaaGreatDoor.KMerge

/- Sorting lines: what the program's Sort returns. At most 65536 lines of at most 65536 bytes. -/
namespace Go.Proofs.YtkekpiillbpciaaGreatDoor.KMerge
open Go Go.RowKit KeyMath KeyVals ScanMath Strs KLoc KRefCmp KSpec KEnv SortMath KCheck
set_option maxRecDepth 100000
theorem onceTo_sub (p : SortSpec) : ∀ (ls os : List Str), Fit ls → Fit os → Fit (onceTo p os ls) ∧ (onceTo p os ls).length ≤ os.length + ls.length
  | [], os, _, ho => by rw [onceTo_nil]; exact ⟨ho, by simp⟩
  | x :: r, os, hl, ho => by
    have hr : Fit r := fun y hy => hl y (List.mem_cons_of_mem _ hy)
    have hx := hl x (by simp)
    rcases h : os.getLast? with _ | y
    · have : os = [] := by simpa using h
      subst this
      rw [onceTo_first]
      have := onceTo_sub p r [x] hr (fit_snoc (os := []) ho hx)
      exact ⟨this.1, by have := this.2; simp at *; omega⟩
    · by_cases hc : KeyMath.compare p y x = 0
      · rw [onceTo_skip h hc]
        have := onceTo_sub p r os hr ho
        exact ⟨this.1, by have := this.2; simp at *; omega⟩
      · rw [onceTo_add h hc]
        have := onceTo_sub p r (os ++ [x]) hr (fit_snoc ho hx)
        exact ⟨this.1, by have := this.2; simp at *; omega⟩
theorem sort_fit (p : SortSpec) (ls : List Str) (h : Fit ls) : Fit (sort p ls) ∧ (sort p ls).length ≤ ls.length := by
  have h1 : Fit (isort (gt p) ls) := fun x hx => h x ((mem_isort _ _).1 hx)
  have h2 := length_isort (gt := gt p) ls
  unfold sort
  split
  · have := onceTo_sub p (isort (gt p) ls) [] h1 (fun x hx => by cases hx)
    exact ⟨this.1, by have := this.2; simp at *; omega⟩
  · exact ⟨h1, by show (isort (gt p) ls).length ≤ _; omega⟩
set_option maxHeartbeats 8000000 in
theorem sort_any (sv v : Value) (p : SortSpec) (ls : List Str) (a : Value) (w : World) (hv : Wts w v) (hk : Keys w sv p.keys) (h0 : check p = 0) (hL : ls.length ≤ 65536) (hfit : Fit ls) (ha : Strs w a ls) :
    Calls Tryz.prog 19 #[.agg #[posix, v, .string ⟨lowT.toArray⟩, .string ⟨upT.toArray⟩, .slice none 0 0, .slice none 0 0], specVal sv p, a] w (MPost w (sort p ls)) := by
  have HCK := Lib.hid (fun W (hW : Keys W sv p.keys) => check_any sv p W hW)
  rw [h0] at HCK
  have HME := Lib.hid (fun W hA hE => merge_any w.heap.size (w.heap.size + 1) v sv p h0 ls.length ls a W (Nat.le_refl _) hL hfit hA hE)
  have hfs : Fit (isort (gt p) ls) := fun x hx => hfit x ((mem_isort _ _).1 hx)
  have hls : (isort (gt p) ls).length ≤ 65536 := by rw [length_isort]; exact hL
  have HON := Lib.hid (fun u W hA hE => once_any w.heap.size (w.heap.size + 1) v sv p h0 (isort (gt p) ls) u W hls hfs hA hE)
  have HS : Hid (sort p ls = if p.uniq then onceTo p [] (isort (gt p) ls) else isort (gt p) ls) := rfl
  have HV := Lib.hid hv
  have HK := Lib.hid hk
  have HA := Lib.hid ha
  obtain ⟨g, c, rfl, hgc, hcell⟩ := hv
  obtain ⟨ka, kc, rfl, -⟩ := hk
  obtain ⟨aa, ca, rfl, -⟩ := strs_form ha
  clear hcell h0 ha hfs
  obtain ⟨ks, sep, fl, uq, st⟩ := p
  unfold posix specVal at *
  simp only at *
  generalize sort (⟨ks, sep, fl, uq, st⟩ : SortSpec) ls = R at *
  generalize isort (gt (⟨ks, sep, fl, uq, st⟩ : SortSpec)) ls = S at *
  have hb1 := ((Below.refl w.heap.size w).alloc (Nat.le_refl _) (.cells #[.string ⟨#[112, 111, 115, 105, 120]⟩, .slice (some ⟨g, 0, none⟩) 256 c, .string ⟨lowT.toArray⟩, .string ⟨upT.toArray⟩, .slice none 0 0, .slice none 0 0] 37)).alloc (by simp) (.cells #[.slice ka ks.length kc, .int .i64 sep, .int .i64 fl, .bool uq, .bool st] 24)
  have HB1 := Lib.hid hb1
  clear hb1
  cases uq with
  | false =>
    have HR : Hid (R = S) := HS.out
    go_enter Tryz.func19, Tryz.ntmps19
    go_wp2_with (first
      | (go_at_call 13
         (with_reducible refine (HCK.out _ (HK.out.below HB1.out)).mono ?_)
         rintro e w2 ⟨rfl, hb2⟩
         have HB2 := Lib.hid (below_step HB1.out hb2)
         have hbx : Box w2 w.heap.size (.slice (some ⟨g, 0, none⟩) 256 c) := (hb2.block _ (by simp <;> omega)).trans ((Below.heap_alloc _ _ _ (by simp)).trans (heap_alloc_new w _))
         have hsx : SBox w2 (w.heap.size + 1) (.slice ka ks.length kc) ⟨ks, sep, fl, _, st⟩ := (hb2.block _ (by simp)).trans (alloc2 w _ _)
         have HEW : Hid (Env w2 w.heap.size (w.heap.size + 1) (.slice (some ⟨g, 0, none⟩) 256 c) (.slice ka ks.length kc) ⟨ks, sep, fl, _, st⟩) := ⟨HV.out.below HB2.out, HK.out.below HB2.out, hbx, hsx⟩
         replace hbx := Lib.hid hbx
         replace hsx := Lib.hid hsx)
      | (go_at_call 42
         (with_reducible refine (HME.out _ (HA.out.below HB2.out) HEW.out).mono ?_)
         rintro e w3 ⟨v3, rfl, hrow3, hb3⟩
         obtain ⟨x3, y3, rfl⟩ := hrow3.form
         have HR3 := Lib.hid hrow3
         have HB3 := Lib.hid (below_step HB2.out hb3)
         obtain ⟨d0, d1, d2, d3, d4⟩ := (hsx.out.keep (hb3.block _ hsx.out.lt)).cells
         clear hrow3))
    go_ret
    refine ⟨_, rfl, ?_, HB3.out⟩
    rw [HR.out]
    exact HR3.out.mono HB2.out.size
  | true =>
    have HR : Hid (R = onceTo ⟨ks, sep, fl, true, st⟩ [] S) := HS.out
    go_enter Tryz.func19, Tryz.ntmps19
    go_wp2_with (first
      | (go_at_call 13
         (with_reducible refine (HCK.out _ (HK.out.below HB1.out)).mono ?_)
         rintro e w2 ⟨rfl, hb2⟩
         have HB2 := Lib.hid (below_step HB1.out hb2)
         have hbx : Box w2 w.heap.size (.slice (some ⟨g, 0, none⟩) 256 c) := (hb2.block _ (by simp <;> omega)).trans ((Below.heap_alloc _ _ _ (by simp)).trans (heap_alloc_new w _))
         have hsx : SBox w2 (w.heap.size + 1) (.slice ka ks.length kc) ⟨ks, sep, fl, _, st⟩ := (hb2.block _ (by simp)).trans (alloc2 w _ _)
         have HEW : Hid (Env w2 w.heap.size (w.heap.size + 1) (.slice (some ⟨g, 0, none⟩) 256 c) (.slice ka ks.length kc) ⟨ks, sep, fl, _, st⟩) := ⟨HV.out.below HB2.out, HK.out.below HB2.out, hbx, hsx⟩
         replace hbx := Lib.hid hbx
         replace hsx := Lib.hid hsx)
      | (go_at_call 42
         (with_reducible refine (HME.out _ (HA.out.below HB2.out) HEW.out).mono ?_)
         rintro e w3 ⟨v3, rfl, hrow3, hb3⟩
         obtain ⟨x3, y3, rfl⟩ := hrow3.form
         have HR3 := Lib.hid hrow3
         have HB3 := Lib.hid (below_step HB2.out hb3)
         have HE3 := Lib.hid (HEW.out.below hb3)
         obtain ⟨d0, d1, d2, d3, d4⟩ := (hsx.out.keep (hb3.block _ hsx.out.lt)).cells
         clear hrow3)
      | (go_at_call 44
         (with_reducible refine (HON.out _ _ (Strs.of_row HR3.out) HE3.out).mono ?_)
         rintro e w4 ⟨v4, rfl, hrow4, hb4⟩
         obtain ⟨x4, y4, rfl⟩ := hrow4.form
         have HR4 := Lib.hid hrow4
         have HB4 := Lib.hid (below_step HB3.out hb4)
         clear hrow4))
    go_ret
    refine ⟨_, rfl, ?_, HB4.out⟩
    rw [HR.out]
    exact HR4.out.mono HB3.out.size
end Go.Proofs.YtkekpiillbpciaaGreatDoor.KMerge
