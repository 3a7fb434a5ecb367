/- KLocCx; KLocCheck; KLocValid; KMap1: merged into one text: lemmas for the walk of the law. No condition. -/
import Derived.Test.YtkekpiillbpciaaGreatDoorC7
import Derived.Test.YtkekpiillbpciaaGreatDoorM6
import Derived.Test.YtkekpiillbpciaaGreatDoorR1
import Derived.Laws.CopyOwn
/- Calls over the default locale whose arguments are written: the machine of CxEval computes them. -/
namespace Go.Proofs.YtkekpiillbpciaaGreatDoor.KLoc
open Go Go.RowKit KeyMath Strs
set_option maxRecDepth 100000
theorem posix_bare : ∀ x ∈ [posix], Cx.bare x = true := by intro x hx; simp at hx; subst hx; rfl
theorem nil_bare : ∀ x ∈ [Value.slice none 0 0], Cx.bare x = true := by intro x hx; simp at hx; subst hx; rfl
theorem name_posix (w : World) : Calls Tryz.prog 177 #[posix] w fun e w' => e = .returned (.bool true) ∧ Below w.heap.size w w' :=
  Cx.closed_calls (K := []) (args := [posix]) rfl (fun x hx => by cases hx) (show Cx.closedB Tryz.prog [] 2000 177 [posix] (.bool true) = true from by decide +kernel) rfl rfl posix_bare w
theorem isName_posix (w : World) : Calls Tryz.prog 188 #[posix] w fun e w' => e = .returned (.bool true) ∧ Below w.heap.size w w' :=
  Cx.closed_calls (K := []) (args := [posix]) rfl (fun x hx => by cases hx) (show Cx.closedB Tryz.prog [] 2000 188 [posix] (.bool true) = true from by decide +kernel) rfl rfl posix_bare w
theorem classes_nil (w : World) : Calls Tryz.prog 178 #[.slice none 0 0] w fun e w' => e = .returned (.int .i64 0) ∧ Below w.heap.size w w' :=
  Cx.closed_calls (K := []) (args := [.slice none 0 0]) rfl (fun x hx => by cases hx) (show Cx.closedB Tryz.prog [] 2000 178 [.slice none 0 0] (.int .i64 0) = true from by decide +kernel) rfl rfl nil_bare w
theorem elements_nil (w : World) : Calls Tryz.prog 179 #[.slice none 0 0] w fun e w' => e = .returned (.int .i64 0) ∧ Below w.heap.size w w' :=
  Cx.closed_calls (K := []) (args := [.slice none 0 0]) rfl (fun x hx => by cases hx) (show Cx.closedB Tryz.prog [] 2000 179 [.slice none 0 0] (.int .i64 0) = true from by decide +kernel) rfl rfl nil_bare w
theorem refClasses_nil (w : World) : Calls Tryz.prog 190 #[.slice none 0 0] w fun e w' => e = .returned (.int .i64 0) ∧ Below w.heap.size w w' :=
  Cx.closed_calls (K := []) (args := [.slice none 0 0]) rfl (fun x hx => by cases hx) (show Cx.closedB Tryz.prog [] 2000 190 [.slice none 0 0] (.int .i64 0) = true from by decide +kernel) rfl rfl nil_bare w
theorem refElements_nil (w : World) : Calls Tryz.prog 191 #[.slice none 0 0] w fun e w' => e = .returned (.int .i64 0) ∧ Below w.heap.size w w' :=
  Cx.closed_calls (K := []) (args := [.slice none 0 0]) rfl (fun x hx => by cases hx) (show Cx.closedB Tryz.prog [] 2000 191 [.slice none 0 0] (.int .i64 0) = true from by decide +kernel) rfl rfl nil_bare w
end Go.Proofs.YtkekpiillbpciaaGreatDoor.KLoc

/- The default locale stands for itself: what both Checks and both valids return. -/
namespace Go.Proofs.YtkekpiillbpciaaGreatDoor.KLoc
open Go Go.RowKit KeyMath Strs KRefCmp
set_option maxRecDepth 100000
theorem low_size : (⟨lowT.toArray⟩ : ByteArray).size = 256 := by simp [ByteArray.size, lowT]
theorem up_size : (⟨upT.toArray⟩ : ByteArray).size = 256 := by simp [ByteArray.size, upT]
set_option maxHeartbeats 4000000 in
theorem check_loc (v : Value) (w : World) (hv : Wts w v) :
    Calls Tryz.prog 132 #[.agg #[posix, v, .string ⟨lowT.toArray⟩, .string ⟨upT.toArray⟩, .slice none 0 0, .slice none 0 0]] w fun e w' => e = .returned (.int .i64 0) ∧ Below w.heap.size w w' := by
  obtain ⟨g, c, rfl, hgc, hcell⟩ := hv
  have HC := Lib.hid hcell
  have HN := Lib.hid fun W => name_posix W
  have HK := Lib.hid fun W => classes_nil W
  have HE := Lib.hid fun W => elements_nil W
  have h1 := low_size
  have h2 := up_size
  clear hcell
  go_enter Tryz.func132, Tryz.ntmps132
  go_wp2_with (go_at_call 177; (with_reducible refine (HN.out _).mono ?_); rintro e w2 ⟨rfl, hb2⟩; obtain ⟨hc2, hf2⟩ := bcell hb2; have hz2 : w.heap.size < w2.heap.size := by have := hb2.size; simp at this; omega)
  go_loopw [29] (fun i wr => ∃ k : Nat, k ≤ 256 ∧ i = .int .i64 k ∧ Box wr w.heap.size (.slice (some ⟨g, 0, none⟩) 256 c) ∧ Below w.heap.size w wr) (fun i _ => 256 - (intOf i).toNat)
  case atStart => exact ⟨0, by omega, rfl, (hb2.block _ (by simp)).trans (heap_alloc_new w _), ((Below.refl _ _).alloc (Nat.le_refl _) _).trans (hb2.mono (by simp))⟩
  case round =>
    obtain ⟨k, hk, rfl, hbox, hb⟩ := hrel
    obtain ⟨c0, c1, c2, c3, c4, c5⟩ := hbox.cells
    have hbl := hbox.lt
    have HB := Lib.hid hb
    have HX := Lib.hid hbox
    by_cases hlt : k < 256
    · have hlt' : (k : Int) < 256 := by omega
      have hww := up hb (HC.out k hlt)
      have h0 : ¬ (k : Int) < 0 := by omega
      have h6 : (k : Int) ≤ 65535 := by omega
      clear hb hbox
      go_wp2
      go_roundw
      case rel => exact ⟨k + 1, by omega, by go_num, HX.out, HB.out⟩
      case measure => simp [intOf]; omega
    · obtain rfl : k = 256 := by omega
      clear hb hbox
      go_wp2_with (first
        | (go_at_call 178; (with_reducible refine (HK.out _).mono ?_); rintro e w3 ⟨rfl, hb3⟩; obtain ⟨hc3, hf3⟩ := bcell hb3; have hz3 : w.heap.size < w3.heap.size := by have := hb3.size; omega)
        | (go_at_call 179; (with_reducible refine (HE.out _).mono ?_); rintro e w4 ⟨rfl, hb4⟩))
      go_ret
      exact ⟨rfl, (HB.out.trans (hb3.mono HB.out.size)).trans (hb4.mono (by have := HB.out.size; have := hb3.size; omega))⟩
end Go.Proofs.YtkekpiillbpciaaGreatDoor.KLoc

/- The default locale stands for itself: what both valids return. -/
namespace Go.Proofs.YtkekpiillbpciaaGreatDoor.KLoc
open Go Go.RowKit KeyMath Strs KRefCmp
set_option maxRecDepth 100000
set_option maxHeartbeats 1000000 in
theorem light_any (n : Int) (w : World) (h0 : 0 ≤ n) (h1 : n ≤ 65535) :
    Calls Tryz.prog 189 #[.int .i64 n] w fun e w' => e = .returned (.bool true) ∧ w = w' := by
  go_enter Tryz.func189, Tryz.ntmps189
  go_wp2
  go_ret
  exact ⟨rfl, rfl⟩
set_option maxHeartbeats 4000000 in
theorem refCheck_loc (v : Value) (w : World) (hv : Wts w v) :
    Calls Tryz.prog 146 #[.agg #[posix, v, .string ⟨lowT.toArray⟩, .string ⟨upT.toArray⟩, .slice none 0 0, .slice none 0 0]] w fun e w' => e = .returned (.int .i64 0) ∧ Below w.heap.size w w' := by
  obtain ⟨g, c, rfl, hgc, hcell⟩ := hv
  have HC := Lib.hid hcell
  have HN := Lib.hid fun W => isName_posix W
  have HK := Lib.hid fun W => refClasses_nil W
  have HE := Lib.hid fun W => refElements_nil W
  have h1 := low_size
  have h2 := up_size
  clear hcell
  go_enter Tryz.func146, Tryz.ntmps146
  go_wp2_with (go_at_call 188; (with_reducible refine (HN.out _).mono ?_); rintro e w2 ⟨rfl, hb2⟩; obtain ⟨hc2, hf2⟩ := bcell hb2; have hz2 : w.heap.size < w2.heap.size := by have := hb2.size; simp at this; omega)
  go_loopw [3] (fun i wr => ∃ k : Nat, k ≤ 256 ∧ i = .int .i64 k ∧ Box wr w.heap.size (.slice (some ⟨g, 0, none⟩) 256 c) ∧ Below w.heap.size w wr) (fun i _ => 256 - (intOf i).toNat)
  case atStart => exact ⟨0, by omega, rfl, (hb2.block _ (by simp)).trans (heap_alloc_new w _), ((Below.refl _ _).alloc (Nat.le_refl _) _).trans (hb2.mono (by simp))⟩
  case round =>
    obtain ⟨k, hk, rfl, hbox, hb⟩ := hrel
    obtain ⟨c0, c1, c2, c3, c4, c5⟩ := hbox.cells
    have hbl := hbox.lt
    have HB := Lib.hid hb
    have HX := Lib.hid hbox
    by_cases hlt : k < 256
    · have hlt' : (k : Int) < 256 := by omega
      have hww := up hb (HC.out k hlt)
      have HL := Lib.hid fun W => light_any (k : Int) W (by omega) (by omega)
      clear hb hbox
      go_wp2_with (go_at_call 189; (with_reducible refine (HL.out _).mono ?_); rintro e w3 ⟨rfl, rfl⟩)
      go_roundw
      case rel => exact ⟨k + 1, by omega, by go_num, HX.out, HB.out⟩
      case measure => simp [intOf]; omega
    · obtain rfl : k = 256 := by omega
      clear hb hbox
      go_wp2_with (first
        | (go_at_call 190; (with_reducible refine (HK.out _).mono ?_); rintro e w3 ⟨rfl, hb3⟩; obtain ⟨hc3, hf3⟩ := bcell hb3; have hz3 : w.heap.size < w3.heap.size := by have := hb3.size; omega)
        | (go_at_call 191; (with_reducible refine (HE.out _).mono ?_); rintro e w4 ⟨rfl, hb4⟩))
      go_ret
      exact ⟨rfl, (HB.out.trans (hb3.mono HB.out.size)).trans (hb4.mono (by have := HB.out.size; have := hb3.size; omega))⟩
set_option maxHeartbeats 4000000 in
theorem refValid_loc (v : Value) (w : World) (hv : Wts w v) :
    Calls Tryz.prog 99 #[.agg #[posix, v, .string ⟨lowT.toArray⟩, .string ⟨upT.toArray⟩, .slice none 0 0, .slice none 0 0]] w fun e w' => e = .returned (.agg #[posix, v, .string ⟨lowT.toArray⟩, .string ⟨upT.toArray⟩, .slice none 0 0, .slice none 0 0]) ∧ Below w.heap.size w w' := by
  have HC := Lib.hid (fun W (hW : Wts W v) => refCheck_loc v W hW)
  have HK := Lib.hid hv
  obtain ⟨g, c, rfl, hgc, hcell⟩ := hv
  clear hcell
  go_enter Tryz.func99, Tryz.ntmps99
  unfold posix at *
  go_wp2_with (go_at_call 146; (with_reducible refine (HC.out _ (HK.out.below (((Below.refl _ _).alloc (Nat.le_refl _) _).alloc (by simp) _))).mono ?_); rintro e w2 ⟨rfl, hb2⟩; obtain ⟨hc2, hf2⟩ := bcell hb2; have hz2 : w.heap.size + 1 < w2.heap.size := by have := hb2.size; simp at this; omega)
  refine bodyPost_ret (v := .agg #[.string ⟨#[112, 111, 115, 105, 120]⟩, .slice (some ⟨g, 0, none⟩) 256 c, .string ⟨lowT.toArray⟩, .string ⟨upT.toArray⟩, .slice none 0 0, .slice none 0 0]) ?_ rfl ⟨rfl, ?_⟩
  · simp [results, Tryz.results99, go_sem, hc2, hz2]
  · exact ((((((((Below.refl _ _).alloc (Nat.le_refl _) _).alloc (by simp) _).trans (hb2.mono (by simp; omega))).setCell (by simp) _).setCell (by simp) _).setCell (by simp) _).setCell (by simp) _ |>.setCell (by simp) _).setCell (by simp) _
end Go.Proofs.YtkekpiillbpciaaGreatDoor.KLoc

/- Capital letters in the default locale: what the reference's mapped and Upper return. Strings of at most 65536 bytes. -/
namespace Go.Proofs.YtkekpiillbpciaaGreatDoor.KMap
open Go Go.RowKit KeyMath ScanMath KLoc Strs KNum
set_option maxRecDepth 100000
theorem byte_info : (Tryz.prog.info? 5).map (fun i => (i.zero, i.size, i.bytes)) = some (some (.int .u8 0), 1, 1) := by kernel_rfl
theorem index_up (b : UInt8) (W : World) : (Instr.index 9 (.string ⟨upT.toArray⟩) (.int .u8 (b.toNat : Int))).run Tryz.prog W = .ok (.int .u8 ((upc b).toNat : Int)) W := by
  have hb := b.toNat_lt
  have hsz := up_size
  rw [run_index_string W 9 _ .u8 _ Tryz.underlying9, dif_pos ⟨by omega, by omega⟩]
  have h := at_some ⟨upT.toArray⟩ (k := b.toNat) (by omega)
  have h2 : (⟨upT.toArray⟩ : ByteArray).data.toList = upT := rfl
  rw [h2, upT_at, Option.some.injEq] at h
  congr 3
  rw [h]
  rfl
theorem byteCells_snoc {l : List UInt8} {k : Nat} {x : UInt8} (h : l[k]? = some x) : Own.byteCells ((l.take (k + 1)).map upc) = Own.byteCells ((l.take k).map upc) ++ [.int .u8 ((upc x).toNat : Int)] := by
  rw [List.take_add_one, h]
  simp [Own.byteCells]
set_option maxHeartbeats 4000000 in
theorem refMapped_any (s : ByteArray) (w : World) (hs : s.size ≤ 65536) :
    Calls Tryz.prog 194 #[.string ⟨upT.toArray⟩, .string s] w fun e w' => e = .returned (.string ⟨(s.data.toList.map upc).toArray⟩) ∧ Below w.heap.size w w' := by
  obtain ⟨i0, hi, hz0, hz1, hz2⟩ := info_parts byte_info
  have hss : s.data.toList.length = s.size := len_eq s
  have HU := Lib.hid index_up
  go_enter Tryz.func194, Tryz.ntmps194
  go_wp2
  go_loopw [5, 6] (fun o i wr => ∃ k : Nat, k ≤ s.size ∧ i = .int .i64 k ∧ Own.Row wr w.heap.size 5 1 o k (Own.byteCells ((s.data.toList.take k).map upc)) ∧ Below w.heap.size w wr) (fun _ i _ => s.size - (intOf i).toNat)
  case atStart => exact ⟨0, Nat.zero_le _, rfl, Own.Row.nil _ _ _ _, Below.refl _ _⟩
  case round =>
    obtain ⟨k, hk, rfl, hrow, hb⟩ := hrel
    by_cases hlt : k < s.size
    · have hx := Lib.hid (at_some s hlt)
      have hlt' : (k : Int) < (s.size : Int) := by omega
      have n1 : k + 1 ≤ maxLen := by unfold maxLen; omega
      have n2 : (k + 1) * 1 ≤ 140737488355328 := by omega
      have HX := Lib.hid (byteCells_snoc hx.out)
      have hix := HU.out s[k]
      have hbs := hb.size
      go_wp2_with (at_builtin
                   refine Own.wpList_append_one _ rfl _ _ 69 rfl w.heap.size 5 i0 (.int .u8 0) 1 Tryz.underlying69 hi hz0 hz1 hz2 rfl _ _ _ rfl hrow _ rfl rfl n1 n2 hbs ?_
                   intro v' w1 hrow1 hg1 hb1)
      go_roundw
      case rel => exact ⟨k + 1, by omega, by go_num, by rw [HX.out]; exact hrow1, hb.trans hb1⟩
      case measure => simp [intOf]; omega
    · obtain rfl : k = s.size := by omega
      have e : s.data.toList.take s.size = s.data.toList := List.take_of_length_le (by rw [hss]; exact Nat.le_refl _)
      rw [e] at hrow
      have hrc := hrow.run_str (P := Tryz.prog) 69 9 Tryz.underlying69 Tryz.underlying5 Tryz.underlying9
      clear hrow
      go_wp2
      go_ret
      exact ⟨rfl, hb⟩
theorem field_up (a b c d e f : Value) (W : World) : (Instr.field 37 (.agg #[a, b, c, d, e, f]) 3).run Tryz.prog W = .ok d W := by
  simp [Instr.field, run_underlying Tryz.underlying37, asAgg, go_sem]
set_option maxHeartbeats 4000000 in
theorem refUpper_any (v : Value) (s : ByteArray) (w : World) (hv : Wts w v) (hs : s.size ≤ 65536) :
    Calls Tryz.prog 151 #[.agg #[posix, v, .string ⟨lowT.toArray⟩, .string ⟨upT.toArray⟩, .slice none 0 0, .slice none 0 0], .string s] w fun e w' => e = .returned (.string ⟨(s.data.toList.map upc).toArray⟩) ∧ Below w.heap.size w w' := by
  have HK := Lib.hid hv
  have HV := Lib.hid (fun W (hW : Wts W v) => refValid_loc v W hW)
  have HM := Lib.hid (fun W => refMapped_any s W hs)
  obtain ⟨g, c, rfl, hgc, hcell⟩ := hv
  clear hcell
  unfold posix at *
  have hfl := fun W => field_up (.string ⟨#[112, 111, 115, 105, 120]⟩) (.slice (some ⟨g, 0, none⟩) 256 c) (.string ⟨lowT.toArray⟩) (.string ⟨upT.toArray⟩) (.slice none 0 0) (.slice none 0 0) W
  go_enter Tryz.func151, Tryz.ntmps151
  go_wp2_with (first
    | (go_at_call 99; (with_reducible refine (HV.out _ (HK.out.below ((Below.refl _ _).alloc (Nat.le_refl _) _))).mono ?_); rintro e w2 ⟨rfl, hb2⟩)
    | (go_at_call 194; (with_reducible refine (HM.out _).mono ?_); rintro e w3 ⟨rfl, hb3⟩))
  go_ret
  exact ⟨rfl, (((Below.refl _ _).alloc (Nat.le_refl _) _).trans (hb2.mono (by simp))).trans (hb3.mono (by have := hb2.size; simp at this; omega))⟩
end Go.Proofs.YtkekpiillbpciaaGreatDoor.KMap
