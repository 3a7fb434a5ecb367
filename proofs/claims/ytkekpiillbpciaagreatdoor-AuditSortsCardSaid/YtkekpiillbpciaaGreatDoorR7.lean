/- KShape; Quietly; KParts: merged into one text: lemmas for the walk of the law. No condition. -/
import Derived.Test.YtkekpiillbpciaaGreatDoorR5
import Derived.Test.YtkekpiillbpciaaGreatDoorR2
import Derived.Test.YtkekpiillbpciaaGreatDoorR3
import Derived.BigQuiet
import Derived.Below
import Derived.WalkKit
/- A part of a line as it is compared: what the reference's shape returns. Strings of at most 65536 bytes, flags from 0 to 31. -/
namespace Go.Proofs.YtkekpiillbpciaaGreatDoor.KShape
open Go Go.RowKit KeyMath ScanMath KLoc Strs KNum KMap KSmall KDict KRefCmp
set_option maxRecDepth 100000
/-- the string without its blanks at the beginning, if these do not count -/
def unblank (n : Nat) (l : List UInt8) : List UInt8 := if has 8 (n : Int) then l.dropWhile isBlank else l
theorem shape_eq (n : Nat) (l : List UInt8) : KeyMath.shape (n : Int) l = (if has 4 (n : Int) then (if has 16 (n : Int) then (unblank n l).filter counts else unblank n l).map upc else (if has 16 (n : Int) then (unblank n l).filter counts else unblank n l)) := rfl
theorem tail_list (s : ByteArray) (h : 0 < s.size) : s.data.toList = s[0] :: (s.extract 1 s.size).data.toList := by
  obtain ⟨⟨l⟩⟩ := s
  have hl : 0 < l.length := h
  cases l with
  | nil => simp at hl
  | cons x r =>
    have e : (ByteArray.extract ⟨⟨x :: r⟩⟩ 1 (ByteArray.size ⟨⟨x :: r⟩⟩)).data.toList = r := by
      simp [ByteArray.size]
    rw [e]
    rfl
theorem tail_size (s : ByteArray) : (s.extract 1 s.size).size = s.size - 1 := by simp
theorem size_of (l : List UInt8) : (⟨l.toArray⟩ : ByteArray).size = l.length := by simp [ByteArray.size]
set_option maxHeartbeats 8000000 in
theorem refShape_any (v : Value) (s : ByteArray) (n : Nat) (w : World) (hv : Wts w v) (hs : s.size ≤ 65536) (hn : n ≤ 31) :
    Calls Tryz.prog 104 #[.agg #[posix, v, .string ⟨lowT.toArray⟩, .string ⟨upT.toArray⟩, .slice none 0 0, .slice none 0 0], .string s, .int .i64 (n : Int)] w fun e w' => e = .returned (.string ⟨(KeyMath.shape (n : Int) s.data.toList).toArray⟩) ∧ Below w.heap.size w w' := by
  have HK := Lib.hid hv
  have HBL := Lib.hid refBlank_any
  have H8 := Lib.hid (fun W => has_8 n hn W)
  have H16 := Lib.hid (fun W => has_16 n hn W)
  have H4 := Lib.hid (fun W => has_4 n hn W)
  have HD := Lib.hid refDict_any
  have HU := Lib.hid refUpper_any
  obtain ⟨g, c, rfl, hgc, hcell⟩ := hv
  clear hcell
  unfold posix at *
  go_enter Tryz.func104, Tryz.ntmps104
  go_wp2
  have hn0 := heap_alloc_new w (.cells #[.string ⟨#[112, 111, 115, 105, 120]⟩, .slice (some ⟨g, 0, none⟩) 256 c, .string ⟨lowT.toArray⟩, .string ⟨upT.toArray⟩, .slice none 0 0, .slice none 0 0] 37)
  have HN : Hid (Box _ w.heap.size (.slice (some ⟨g, 0, none⟩) 256 c)) := hn0
  have HB0 := Lib.hid ((Below.refl w.heap.size w).alloc (Nat.le_refl _) (.cells #[.string ⟨#[112, 111, 115, 105, 120]⟩, .slice (some ⟨g, 0, none⟩) 256 c, .string ⟨lowT.toArray⟩, .string ⟨upT.toArray⟩, .slice none 0 0, .slice none 0 0] 37))
  clear hn0
  go_loopw [1] (fun x wr => ∃ s' : ByteArray, x = .string s' ∧ s'.size ≤ s.size ∧ unblank n s'.data.toList = unblank n s.data.toList ∧ (has 8 (n : Int) = false → s' = s) ∧ wr = w.alloc (.cells #[.string ⟨#[112, 111, 115, 105, 120]⟩, .slice (some ⟨g, 0, none⟩) 256 c, .string ⟨lowT.toArray⟩, .string ⟨upT.toArray⟩, .slice none 0 0, .slice none 0 0] 37)) (fun x _ => match x with | .string b => b.size | _ => 0)
  case atStart => exact ⟨s, rfl, Nat.le_refl _, rfl, fun _ => rfl, rfl⟩
  case round =>
    obtain ⟨s', rfl, hle, hun, h8f, rfl⟩ := hrel
    have HU8 := Lib.hid hun
    have H8F := Lib.hid h8f
    clear hun h8f
    rcases h8 : has 8 (n : Int) with _ | _
    · have HA := Lib.hid (show s'.data.toList = unblank n s.data.toList by rw [H8F.out h8]; unfold unblank; rw [if_neg (by rw [h8]; decide)])
      obtain rfl := H8F.out h8
      rcases h16 : has 16 (n : Int) with _ | _ <;> rcases h4 : has 4 (n : Int) with _ | _
      all_goals
        go_wp2_with (first
          | (go_at_call_of 68 (Value.int .i64 8); (with_reducible refine (H8.out _).mono ?_); rintro e w2 ⟨rfl, rfl⟩)
          | (go_at_call_of 68 (Value.int .i64 16); (with_reducible refine (H16.out _).mono ?_); rintro e w2 ⟨rfl, rfl⟩)
          | (go_at_call_of 68 (Value.int .i64 4); (with_reducible refine (H4.out _).mono ?_); rintro e w2 ⟨rfl, rfl⟩)
          | (go_at_call 149; (with_reducible refine (hbl _).mono ?_); rintro e w2 ⟨rfl, rfl⟩)
          | (go_at_call 150
             (with_reducible refine (HD.out _ _ (by omega)).mono ?_)
             rintro e w3 ⟨rfl, hb3⟩
             have HB3 := Lib.hid (below_step HB0.out hb3)
             have HX3 : Box w3 w.heap.size (.slice (some ⟨g, 0, none⟩) 256 c) := HN.out.keep (hb3.block _ HN.out.lt)
             obtain ⟨-, d1, d2, d3, d4, d5⟩ := HX3.cells
             have d0 := HX3.cells'
             clear HX3)
          | (go_at_call 151
             (with_reducible refine (HU.out _ _ _ (HK.out.below (by first | exact HB3.out | exact HB0.out)) ?_).mono ?_)
             · first | omega | (rw [size_of]; exact Nat.le_trans (List.length_filter_le _ _) (by rw [len_eq]; omega))
             rintro e w4 ⟨rfl, hb4⟩))
        go_ret
        refine ⟨?_, by first | exact below_step HB3.out hb4 | exact below_step HB0.out hb4 | exact HB3.out | exact HB0.out⟩
        rw [shape_eq, h16, h4, ← HA.out]
        rfl
    · by_cases hz : s'.size = 0
      · have he : s'.data.toList = [] := List.eq_nil_of_length_eq_zero (by rw [len_eq]; exact hz)
        have HA := Lib.hid (show s'.data.toList = unblank n s.data.toList by rw [← HU8.out, he]; unfold unblank; simp)
        clear he
        have hz2 : (s'.size : Int) = 0 := by omega
        rcases h16 : has 16 (n : Int) with _ | _ <;> rcases h4 : has 4 (n : Int) with _ | _
        all_goals
          go_wp2_with (first
            | (go_at_call_of 68 (Value.int .i64 8); (with_reducible refine (H8.out _).mono ?_); rintro e w2 ⟨rfl, rfl⟩)
            | (go_at_call_of 68 (Value.int .i64 16); (with_reducible refine (H16.out _).mono ?_); rintro e w2 ⟨rfl, rfl⟩)
            | (go_at_call_of 68 (Value.int .i64 4); (with_reducible refine (H4.out _).mono ?_); rintro e w2 ⟨rfl, rfl⟩)
            | (go_at_call 149; (with_reducible refine (hbl _).mono ?_); rintro e w2 ⟨rfl, rfl⟩)
            | (go_at_call 150
               (with_reducible refine (HD.out _ _ (by omega)).mono ?_)
               rintro e w3 ⟨rfl, hb3⟩
               have HB3 := Lib.hid (below_step HB0.out hb3)
               have HX3 : Box w3 w.heap.size (.slice (some ⟨g, 0, none⟩) 256 c) := HN.out.keep (hb3.block _ HN.out.lt)
               obtain ⟨-, d1, d2, d3, d4, d5⟩ := HX3.cells
               have d0 := HX3.cells'
               clear HX3)
            | (go_at_call 151
               (with_reducible refine (HU.out _ _ _ (HK.out.below (by first | exact HB3.out | exact HB0.out)) ?_).mono ?_)
               · first | omega | (rw [size_of]; exact Nat.le_trans (List.length_filter_le _ _) (by rw [len_eq]; omega))
               rintro e w4 ⟨rfl, hb4⟩))
          go_ret
          refine ⟨?_, by first | exact below_step HB3.out hb4 | exact below_step HB0.out hb4 | exact HB3.out | exact HB0.out⟩
          rw [shape_eq, h16, h4, ← HA.out]
          rfl
      · have hz' : 0 < s'.size := by omega
        have hz2 : (0 : Int) < (s'.size : Int) := by omega
        rcases hbk : isBlank s'[0] with _ | _
        · have hbl := HBL.out s'[0]
          rw [hbk] at hbl
          have HA := Lib.hid (show s'.data.toList = unblank n s.data.toList by rw [← HU8.out]; unfold unblank; rw [if_pos h8, tail_list s' hz', List.dropWhile_cons, if_neg (by rw [hbk]; decide)])
          rcases h16 : has 16 (n : Int) with _ | _ <;> rcases h4 : has 4 (n : Int) with _ | _
          all_goals
            go_wp2_with (first
              | (go_at_call_of 68 (Value.int .i64 8); (with_reducible refine (H8.out _).mono ?_); rintro e w2 ⟨rfl, rfl⟩)
              | (go_at_call_of 68 (Value.int .i64 16); (with_reducible refine (H16.out _).mono ?_); rintro e w2 ⟨rfl, rfl⟩)
              | (go_at_call_of 68 (Value.int .i64 4); (with_reducible refine (H4.out _).mono ?_); rintro e w2 ⟨rfl, rfl⟩)
              | (go_at_call 149; (with_reducible refine (hbl _).mono ?_); rintro e w2 ⟨rfl, rfl⟩)
              | (go_at_call 150
                 (with_reducible refine (HD.out _ _ (by omega)).mono ?_)
                 rintro e w3 ⟨rfl, hb3⟩
                 have HB3 := Lib.hid (below_step HB0.out hb3)
                 have HX3 : Box w3 w.heap.size (.slice (some ⟨g, 0, none⟩) 256 c) := HN.out.keep (hb3.block _ HN.out.lt)
                 obtain ⟨-, d1, d2, d3, d4, d5⟩ := HX3.cells
                 have d0 := HX3.cells'
                 clear HX3)
              | (go_at_call 151
                 (with_reducible refine (HU.out _ _ _ (HK.out.below (by first | exact HB3.out | exact HB0.out)) ?_).mono ?_)
                 · first | omega | (rw [size_of]; exact Nat.le_trans (List.length_filter_le _ _) (by rw [len_eq]; omega))
                 rintro e w4 ⟨rfl, hb4⟩))
            go_ret
            refine ⟨?_, by first | exact below_step HB3.out hb4 | exact below_step HB0.out hb4 | exact HB3.out | exact HB0.out⟩
            rw [shape_eq, h16, h4, ← HA.out]
            rfl
        · have hbl := HBL.out s'[0]
          rw [hbk] at hbl
          have hsl : ∀ W, (Instr.slice 9 (.string s') (some (.int .i64 1)) none none).run Tryz.prog W = .ok (.string (s'.extract 1 s'.size)) W := fun W => run_slice_string_l W _ s' Tryz.underlying9 .i64 _ (by omega) (by omega)
          go_wp2_with (first
            | (go_at_call_of 68 (Value.int .i64 8); (with_reducible refine (H8.out _).mono ?_); rintro e w2 ⟨rfl, rfl⟩)
            | (go_at_call 149; (with_reducible refine (hbl _).mono ?_); rintro e w2 ⟨rfl, rfl⟩))
          go_roundw
          case rel =>
            refine ⟨_, rfl, by rw [tail_size]; omega, ?_, fun h => absurd h (by first | (rw [h8]; decide) | decide), by first | rfl | trivial⟩
            rw [← HU8.out]
            unfold unblank
            rw [if_pos h8, if_pos h8, tail_list s' hz', List.dropWhile_cons, if_pos hbk]
          case measure => simp [tail_size]; omega
end Go.Proofs.YtkekpiillbpciaaGreatDoor.KShape

/- A region that draws its order, and whose calls only add to the memory: one walk in the order of the text, the world a letter of a family of worlds. -/
namespace Go.Proofs.YtkekpiillbpciaaGreatDoor.Quietly
open Go Go.RowKit

/-- the worlds that only add to a world, as a family -/
theorem worlds (w0 : World) : ∃ (X : Type) (F : X → World), Nonempty X ∧ (∀ x, Below w0.heap.size w0 (F x)) ∧ (∃ x, w0 = F x) ∧ ∀ x w', Below (F x).heap.size (F x) w' → ∃ y, w' = F y :=
  ⟨{ w // Below w0.heap.size w0 w }, Subtype.val, ⟨⟨w0, Below.refl _ _⟩⟩, fun x => x.2, ⟨⟨w0, Below.refl _ _⟩, rfl⟩, fun x w' h => ⟨⟨w', x.2.trans (h.mono x.2.size)⟩, rfl⟩⟩
theorem region {P : Program} {X : Type} {F : X → World} {id : Nat} {Q : Exit → Act → World → Prop} {a : Act} {w : World} {l : List Oper} (hm : P.follows .mixedOrders = true) (hB : Region.lexB .any l.toArray = true)
    (hw : ∃ x, w = F x) (hF : ∀ x w', Below (F x).heap.size (F x) w' → ∃ y, w' = F y)
    (h : wpQuiet P l.toArray (fun w' => ∃ x, w' = F x) (fun a' => ∀ w', (∃ x, w' = F x) → Q .normal a' w') l a) : (Code.region id l.toArray true).wp P Q a w := by
  refine wp_region_quiet (C := fun w' => ∃ x, w' = F x) hm hB ?_ (by simpa using h)
  obtain ⟨x, rfl⟩ := hw
  exact hF x _ (Below.refl _ _).drew
end Go.Proofs.YtkekpiillbpciaaGreatDoor.Quietly

/- Comparing two parts of lines: what the reference's parts returns. Strings of at most 65536 bytes, flags from 0 to 31. -/
namespace Go.Proofs.YtkekpiillbpciaaGreatDoor.KParts
open Go Go.RowKit KeyMath ScanMath KLoc Strs KNum KMap KSmall KDict KRefCmp KShape
set_option maxRecDepth 100000
theorem cmp_range : ∀ (a b : List UInt8), -1 ≤ cmp a b ∧ cmp a b ≤ 1
  | [], [] => by simp [cmp]
  | [], _ :: _ => by simp [cmp]
  | _ :: _, [] => by simp [cmp]
  | a :: x, b :: y => by
    have ih := cmp_range x y
    unfold cmp
    split
    · omega
    · split
      · omega
      · exact ih
theorem sgn_range (a b : Int) : -1 ≤ sgn a b ∧ sgn a b ≤ 1 := by
  unfold sgn
  split
  · omega
  · split <;> omega
theorem neg_wrap {c : Int} (h : -1 ≤ c ∧ c ≤ 1) : wrap64 (-c) = -c := by unfold wrap64; omega
theorem parts_eq (n : Nat) (x y : List UInt8) : parts (n : Int) x y = (if has 2 (n : Int) then -(if has 1 (n : Int) then sgn (num x) (num y) else cmp (KeyMath.shape (n : Int) x) (KeyMath.shape (n : Int) y)) else (if has 1 (n : Int) then sgn (num x) (num y) else cmp (KeyMath.shape (n : Int) x) (KeyMath.shape (n : Int) y))) := rfl
theorem shape_le (n : Nat) (l : List UInt8) : (KeyMath.shape (n : Int) l).length ≤ l.length := by
  have h1 : (unblank n l).length ≤ l.length := by
    unfold unblank
    split
    · exact (List.dropWhile_sublist _).length_le
    · exact Nat.le_refl _
  rw [shape_eq]
  split
  · rw [List.length_map]
    split
    · exact Nat.le_trans (List.length_filter_le _ _) h1
    · exact h1
  · split
    · exact Nat.le_trans (List.length_filter_le _ _) h1
    · exact h1
set_option maxHeartbeats 8000000 in
theorem refParts_any (v : Value) (s t : ByteArray) (n : Nat) (w : World) (hv : Wts w v) (hs : s.size ≤ 65536) (ht : t.size ≤ 65536) (hn : n ≤ 31) :
    Calls Tryz.prog 69 #[.agg #[posix, v, .string ⟨lowT.toArray⟩, .string ⟨upT.toArray⟩, .slice none 0 0, .slice none 0 0], .string s, .string t, .int .i64 (n : Int)] w fun e w' => e = .returned (.int .i64 (parts (n : Int) s.data.toList t.data.toList)) ∧ Below w.heap.size w w' := by
  have hb0 := (Below.refl w.heap.size w).alloc (Nat.le_refl _) (.cells #[posix, v, .string ⟨lowT.toArray⟩, .string ⟨upT.toArray⟩, .slice none 0 0, .slice none 0 0] 37)
  have hbx : Box (w.alloc (.cells #[posix, v, .string ⟨lowT.toArray⟩, .string ⟨upT.toArray⟩, .slice none 0 0, .slice none 0 0] 37)) w.heap.size v := heap_alloc_new w _
  have hv0 := hv.below hb0
  have H1 := Lib.hid (fun W => has_1 n hn W)
  have H2 := Lib.hid (fun W => has_2 n hn W)
  have HNU := Lib.hid (fun W => numbers_any s t W (by unfold maxLen; omega) (by unfold maxLen; omega))
  have HSS := Lib.hid (fun W (hW : Wts W v) => refShape_any v s n W hW hs hn)
  have HST := Lib.hid (fun W (hW : Wts W v) => refShape_any v t n W hW ht hn)
  have HC := Lib.hid (fun W (hW : Wts W v) => refCompare_any v ⟨(KeyMath.shape (n : Int) s.data.toList).toArray⟩ ⟨(KeyMath.shape (n : Int) t.data.toList).toArray⟩ W hW (by rw [size_of]; exact Nat.le_trans (shape_le n _) (by rw [len_eq]; exact hs)) (by rw [size_of]; exact Nat.le_trans (shape_le n _) (by rw [len_eq]; exact ht)))
  have hws := neg_wrap (sgn_range (num s.data.toList) (num t.data.toList))
  have hwc := neg_wrap (cmp_range (KeyMath.shape (n : Int) s.data.toList) (KeyMath.shape (n : Int) t.data.toList))
  have HWS := Lib.hid hws
  have HWC := Lib.hid hwc
  have HP := Lib.hid (parts_eq n s.data.toList t.data.toList)
  generalize parts (n : Int) s.data.toList t.data.toList = R at *
  clear hws hwc
  generalize sgn (num s.data.toList) (num t.data.toList) = S at *
  rcases h1 : has 1 (n : Int) with _ | _
  · rcases h2 : has 2 (n : Int) with _ | _
    all_goals
      obtain ⟨g, c, rfl, hgc, hcell⟩ := hv
      clear hcell
      unfold posix at *
      have HB0 := Lib.hid hb0
      have HV0 := Lib.hid hv0
      have hbx' := hbx
      have HX0 := Lib.hid hbx'
      clear hbx hbx' hv0 hb0
      rw [h1, h2] at HP
      go_enter Tryz.func69, Tryz.ntmps69
      go_wp2_with (go_at_call_of 68 (Value.int .i64 1); (with_reducible refine (H1.out _).mono ?_); rintro e w2 ⟨rfl, rfl⟩)
      generalize w.alloc (.cells #[.string ⟨#[112, 111, 115, 105, 120]⟩, .slice (some ⟨g, 0, none⟩) 256 c, .string ⟨lowT.toArray⟩, .string ⟨upT.toArray⟩, .slice none 0 0, .slice none 0 0] 37) = w0 at *
      obtain ⟨X, F, hN, hBF, hw0, hF⟩ := Quietly.worlds w0
      have hV : ∀ x, Wts (F x) (.slice (some ⟨g, 0, none⟩) 256 c) := fun x => HV0.out.below (hBF x)
      have hX : ∀ x, Box (F x) w.heap.size (.slice (some ⟨g, 0, none⟩) 256 c) := fun x => HX0.out.keep ((hBF x).block _ HX0.out.lt)
      have c0 : ∀ x, (F x).cell? ⟨w.heap.size, 0, none⟩ = some (.string ⟨#[112, 111, 115, 105, 120]⟩) := fun x => (hX x).cells'
      have c1 : ∀ x, (F x).cell? ⟨w.heap.size, 1, none⟩ = some (.slice (some ⟨g, 0, none⟩) 256 c) := fun x => (hX x).cells.2.1
      have c2 : ∀ x, (F x).cell? ⟨w.heap.size, 2, none⟩ = some (.string ⟨lowT.toArray⟩) := fun x => (hX x).cells.2.2.1
      have c3 : ∀ x, (F x).cell? ⟨w.heap.size, 3, none⟩ = some (.string ⟨upT.toArray⟩) := fun x => (hX x).cells.2.2.2.1
      have c4 : ∀ x, (F x).cell? ⟨w.heap.size, 4, none⟩ = some (.slice none 0 0) := fun x => (hX x).cells.2.2.2.2.1
      have c5 : ∀ x, (F x).cell? ⟨w.heap.size, 5, none⟩ = some (.slice none 0 0) := fun x => (hX x).cells.2.2.2.2.2
      have HVF := Lib.hid hV
      clear hX hV
      refine Quietly.region (by kernel_rfl) (by kernel_rfl) hw0 hF ?_
      repeat go_big_quiet_step (first
        | (go_at_call_of 104 (Value.string s)
           (with_reducible refine (HSS.out _ (HVF.out _)).mono ?_)
           rintro e w1 ⟨rfl, hb1⟩
           exact ⟨rfl, hF _ _ hb1⟩)
        | (go_at_call_of 104 (Value.string t)
           (with_reducible refine (HST.out _ (HVF.out _)).mono ?_)
           rintro e w1 ⟨rfl, hb1⟩
           exact ⟨rfl, hF _ _ hb1⟩)
        | (go_at_call 67
           (with_reducible refine (HC.out _ (HVF.out _)).mono ?_)
           rintro e w1 ⟨rfl, hb1⟩
           exact ⟨rfl, hF _ _ hb1⟩))
      refine wpQuiet_nil ?_
      rintro _ ⟨x, rfl⟩
      go_wp2_with (go_at_call_of 68 (Value.int .i64 2); (with_reducible refine (H2.out _).mono ?_); rintro e w2 ⟨rfl, rfl⟩)
      go_ret
      exact ⟨by rw [HP.out]; first | exact ret_int rfl | exact ret_int HWC.out, below_step HB0.out (hBF x)⟩
  · rcases h2 : has 2 (n : Int) with _ | _
    all_goals
      obtain ⟨g, c, rfl, hgc, hcell⟩ := hv
      clear hcell
      unfold posix at *
      have HB0 := Lib.hid hb0
      clear hbx hv0 hb0
      rw [h1, h2] at HP
      go_enter Tryz.func69, Tryz.ntmps69
      go_wp2_with (first
        | (go_at_call_of 68 (Value.int .i64 1); (with_reducible refine (H1.out _).mono ?_); rintro e w2 ⟨rfl, rfl⟩)
        | (go_at_call_of 68 (Value.int .i64 2); (with_reducible refine (H2.out _).mono ?_); rintro e w2 ⟨rfl, rfl⟩)
        | (go_at_call 103; (with_reducible refine (HNU.out _).mono ?_); rintro e w2 ⟨rfl, rfl⟩))
      go_ret
      exact ⟨by rw [HP.out]; first | exact ret_int rfl | exact ret_int HWS.out, HB0.out⟩
end Go.Proofs.YtkekpiillbpciaaGreatDoor.KParts
