/- Builder2; KDict2: merged into one text: lemmas for the walk of the law. No condition. -/
import Derived.Test.YtkekpiillbpciaaGreatDoorM1
import Derived.Test.YtkekpiillbpciaaGreatDoorR1
import Derived.Maps.AppendAt
import Derived.Test.YtkekpiillbpciaaGreatDoorProg
import Derived.WalkKit
import Derived.Shelf.Strings.Builder1
import Derived.Test.YtkekpiillbpciaaGreatDoorR5
import Derived.Test.YtkekpiillbpciaaGreatDoorShelf
/- strings.Builder at this program: copyCheck and WriteByte, at a builder that the call has made; the new length takes at most 2^47 bytes. -/
namespace Go.Proofs.YtkekpiillbpciaaGreatDoor.Builder2
open Go Go.RowKit

theorem sizeBuilder : (Tryz.prog.info? 200).map (·.size) = some 2 := by kernel_rfl
theorem liesBuilder : liesAt Tryz.prog Tryz.prog.depth 200 (2 / Tryz.prog.cellsOf 200) 0 200 1 = true := by kernel_rfl
theorem byteInfo : (Tryz.prog.info? 5).map (fun i => (i.zero, i.size, i.bytes)) = some (some (.int .u8 0), 1, 1) := by kernel_rfl

set_option maxHeartbeats 1000000 in
set_option maxRecDepth 100000 in
theorem copyCheck_used (b : Nat) (w : World) (h0 : w.cell? ⟨b, 0, none⟩ = some (.pointer (some ⟨b, 0, none⟩))) :
    Calls Tryz.prog 186 #[.pointer (some ⟨b, 0, none⟩)] w fun e w' => e = .returned (.tuple #[]) ∧ w' = w := by
  obtain ⟨j, hj, _⟩ := Option.map_eq_some_iff.1 sizeBuilder
  go_enter Tryz.func186, Tryz.ntmps186
  go_wp2
  rw [Lib.run_neq_ptr_same w _ Tryz.underlying198 hj]
  go_wp2
  go_end0
  exact ⟨rfl, rfl⟩

set_option maxHeartbeats 1000000 in
set_option maxRecDepth 100000 in
theorem copyCheck_fresh (b : Nat) (w : World) (h0 : w.cell? ⟨b, 0, none⟩ = some (.pointer none)) (hsh : w.shape? b = some (200, 2)) (hfz : w.frozen? ⟨b, 0, none⟩ = false) :
    Calls Tryz.prog 186 #[.pointer (some ⟨b, 0, none⟩)] w fun e w' => e = .returned (.tuple #[]) ∧ w' = w.setCell ⟨b, 0, none⟩ (.pointer (some ⟨b, 0, none⟩)) := by
  obtain ⟨j, hj, hjs⟩ := Option.map_eq_some_iff.1 sizeBuilder
  go_enter Tryz.func186, Tryz.ntmps186
  go_wp2
  rw [Lib.run_to_unsafe w ⟨b, 0, none⟩ Tryz.underlying198 Tryz.underlying253 hj (by rw [hjs]; decide) hsh (Nat.zero_lt_succ 1)]
  simp only [Result.andThen]
  rw [Oper.upon_value]
  go_wp2
  rw [run_callFunc_extern Tryz.func222 (by kernel_rfl) (by kernel_rfl) (by kernel_rfl) (e := Extern.AbiNoEscape.same) (by kernel_rfl)]
  rw [Lib.run_noEscape]
  simp only [Result.andThen]
  rw [Oper.upon_value]
  go_wp2
  rw [Lib.run_from_unsafe w ⟨b, 0, none⟩ Tryz.underlying253 Tryz.underlying198 hj hsh liesBuilder]
  simp only [Result.andThen]
  rw [Oper.upon_value]
  go_wp2
  go_end0
  exact ⟨rfl, rfl⟩

theorem copyCheck_any (B b : Nat) (bs : List Value) (w : World) (h : Lib.IsBuilder 200 5 B b bs w) :
    Calls Tryz.prog 186 #[.pointer (some ⟨b, 0, none⟩)] w fun e w' => e = .returned (.tuple #[]) ∧ (Lib.BuilderAt 200 5 B b (.pointer (some ⟨b, 0, none⟩)) bs w' ∧ Below B w w') := by
  rcases h with h | h
  · refine (copyCheck_fresh b w h.cell0 h.shape h.frozen0).mono ?_
    rintro e w' ⟨rfl, rfl⟩
    exact ⟨rfl, h.used _, (Below.refl B w).setCell (p := ⟨b, 0, none⟩) h.1 _⟩
  · refine (copyCheck_used b w h.cell0).mono ?_
    rintro e w' ⟨rfl, rfl⟩
    exact ⟨rfl, h, Below.refl B _⟩

set_option maxHeartbeats 1000000 in
set_option maxRecDepth 100000 in
theorem writeByte (B b : Nat) (bs : List Value) (x : Int) (w : World) (h : Lib.IsBuilder 200 5 B b bs w) (hlen : bs.length ≤ 65536) (hBw : B ≤ w.heap.size) :
    Calls Tryz.prog 142 #[.pointer (some ⟨b, 0, none⟩), .int .u8 x] w fun e w' => e = .returned .nilIface ∧ (Lib.BuilderAt 200 5 B b (.pointer (some ⟨b, 0, none⟩)) (bs ++ [.int .u8 x]) w' ∧ Below B w w') := by
  obtain ⟨i0, hi, hz0, hz1, hz2⟩ := info_parts byteInfo
  go_enter Tryz.func142, Tryz.ntmps142
  go_wp2_with (go_at_call 186; refine (copyCheck_any B b bs _ h).mono ?_)
  rintro e w1 ⟨rfl, h1, hb1⟩
  obtain ⟨hB, v, hbk, hown, hne⟩ := h1
  have hsz1 := hb1.size
  have hlt : b < w1.heap.size := by
    rcases Nat.lt_or_ge b w1.heap.size with h' | h'
    · exact h'
    · simp [Array.getElem?_eq_none h'] at hbk
  have c0 : w1.cell? ⟨b, 0, none⟩ = some (.pointer (some ⟨b, 0, none⟩)) := by rw [Lib.cell_of_heap hbk]; rfl
  have c1 : w1.cell? ⟨b, 1, none⟩ = some v := by rw [Lib.cell_of_heap hbk]; rfl
  obtain ⟨va, vn, vc, rfl⟩ : ∃ ao n' cap, v = .slice ao n' cap := by
    rcases hown.2 with ⟨hv, _⟩ | ⟨g, cap, cur, hv, _⟩
    · exact ⟨_, _, _, hv⟩
    · exact ⟨_, _, _, hv⟩
  have n1 : bs.length + 1 ≤ maxLen := by unfold maxLen; omega
  have n2 : (bs.length + 1) * 1 ≤ 140737488355328 := by omega
  have hown0 : (w1.alloc (.cells #[.int .u8 x] 5)).ownsRow B 5 1 (.slice va vn vc) bs.length bs := KRefCmp.ownsRow_keep hown (fun k hk => Below.heap_alloc _ _ _ (KRefCmp.ownsRow_block hown k hk).2)
  go_wp2_with (at_builtin; refine wpList_append_own (w1.alloc (.cells #[.int .u8 x] 5)) rfl _ _ 69 rfl B 5 i0 (.int .u8 0) 1 1 Tryz.underlying69 hi hz0 hz1 hz2 rfl (by decide) _ bs.length bs rfl hown0 ⟨w1.heap.size, 0, none⟩ 1 1 [.int .u8 x] rfl rfl (cell_one_new _ _ _) (by simp [Value.oneCell']) n1 n2 (by simp; omega) ?_)
  intro v' w2 hown' hgrow _
  have hb2 : w2.heap[b]? = some (.cells #[.pointer (some ⟨b, 0, none⟩), .slice va vn vc] 200 (0, 0)) := by
    rw [hgrow.block b (by simp; omega) (fun e => hne e.symm)]
    exact (Below.heap_alloc _ _ _ hlt).trans hbk
  have d0 : w2.cell? ⟨b, 0, none⟩ = some (.pointer (some ⟨b, 0, none⟩)) := by rw [Lib.cell_of_heap hb2]; rfl
  have d1 : w2.cell? ⟨b, 1, none⟩ = some (.slice va vn vc) := by rw [Lib.cell_of_heap hb2]; rfl
  have f1 : w2.frozen? ⟨b, 1, none⟩ = false := Lib.frozen_of_heap hb2 1
  obtain ⟨ao, n', cap, rfl⟩ : ∃ ao n' cap, v' = .slice ao n' cap := by
    rcases hown'.2 with ⟨hv, _⟩ | ⟨g, cap, cur, hv, _⟩
    · exact ⟨_, _, _, hv⟩
    · exact ⟨_, _, _, hv⟩
  go_wp2
  go_ret
  refine ⟨rfl, ?_, ?_⟩
  · exact Lib.BuilderAt.put (T := 200) (e := 5) hB hb2 (bs' := bs ++ [.int .u8 x]) (by simpa using hown') (by decide)
  · exact ((hb1.alloc (by omega) _).grown hgrow (by simp; omega) (fun k hk => (hown.lt k hk).1)).setCell (p := ⟨b, 1, none⟩) hB _
end Go.Proofs.YtkekpiillbpciaaGreatDoor.Builder2

/- The bytes that count in a dictionary: what the program's dict returns. Strings of at most 65536 bytes. -/
namespace Go.Proofs.YtkekpiillbpciaaGreatDoor.KDict
open Go Go.RowKit KeyMath ScanMath KLoc Strs KNum KMap KSmall
set_option maxRecDepth 100000
/-- a builder at block b that holds the bytes l -/
abbrev Bld (w : World) (B b : Nat) (l : List UInt8) : Prop := Lib.IsBuilder 200 5 B b (Lib.byteCells l) w
theorem bytes_snoc (l : List UInt8) (x : UInt8) : Lib.byteCells l ++ [Value.int .u8 (x.toNat : Int)] = Lib.byteCells (l ++ [x]) := by simp [Lib.byteCells]
theorem filter_more {l : List UInt8} {k : Nat} {x : UInt8} (h : l[k]? = some x) (hc : counts x = true) : (l.take (k + 1)).filter counts = (l.take k).filter counts ++ [x] := by
  rw [List.take_add_one, h]
  simp [hc]
theorem filter_same {l : List UInt8} {k : Nat} {x : UInt8} (h : l[k]? = some x) (hc : counts x = false) : (l.take (k + 1)).filter counts = (l.take k).filter counts := by
  rw [List.take_add_one, h]
  simp [hc]
theorem filter_short (l : List UInt8) (k : Nat) : ((l.take k).filter counts).length ≤ k := Nat.le_trans (List.length_filter_le _ _) (by simp; omega)
set_option maxHeartbeats 4000000 in
theorem dict_any (s : ByteArray) (w : World) (hs : s.size ≤ 65536) :
    Calls Tryz.prog 95 #[.string s] w fun e w' => e = .returned (.string ⟨(s.data.toList.filter counts).toArray⟩) ∧ Below w.heap.size w w' := by
  have hss : s.data.toList.length = s.size := len_eq s
  have HBL := Lib.hid blank_any
  have HWB := Lib.hid Builder2.writeByte
  go_enter Tryz.func95, Tryz.ntmps95
  go_wp2
  go_loopw [8] (fun i wr => ∃ k : Nat, k ≤ s.size ∧ i = .int .i64 k ∧ Bld wr w.heap.size w.heap.size ((s.data.toList.take k).filter counts) ∧ Below w.heap.size w wr) (fun i _ => s.size - (intOf i).toNat)
  case atStart => exact ⟨0, Nat.zero_le _, rfl, .inl ⟨Nat.le_refl _, .slice none 0 0, heap_alloc_new w _, ⟨rfl, .inl ⟨rfl, rfl⟩⟩, by simp [Value.ownBlock]⟩, (Below.refl _ _).alloc (Nat.le_refl _) _⟩
  case round =>
    obtain ⟨k, hk, rfl, hbld, hb⟩ := hrel
    by_cases hlt : k < s.size
    · have hx := Lib.hid (at_some s hlt)
      have hlt' : (k : Int) < (s.size : Int) := by omega
      have hbl := HBL.out s[k]
      have HCV := Lib.hid (counts_val s[k])
      have HBD := Lib.hid hbld
      have hfl := filter_short s.data.toList k
      have hbs := hb.size
      clear hbld
      generalize isBlank s[k] = q at *
      cases q
      all_goals
        go_wp2_with (first
          | (go_at_call 141; (with_reducible refine (hbl _).mono ?_); rintro e w2 ⟨rfl, rfl⟩)
          | (go_at_call 142; (with_reducible refine (HWB.out w.heap.size w.heap.size _ _ _ HBD.out (by rw [Lib.byteCells_length]; omega) hbs).mono ?_); rintro e w2 ⟨rfl, hbd2, hb2⟩))
      all_goals
        go_roundw
        case rel => first
          | exact ⟨k + 1, by omega, by go_num, .inr (by rw [filter_more hx.out (HCV.out.2 (by first | exact .inl trivial | exact .inl rfl | (right; omega))), ← bytes_snoc]; exact hbd2), hb.trans hb2⟩
          | exact ⟨k + 1, by omega, by go_num, by rw [filter_same hx.out (by rcases hcc : counts s[k] with _ | _; rfl; have := HCV.out.1 hcc; simp at this; omega)]; exact HBD.out, hb⟩
        case measure => simp [intOf]; omega
    · obtain rfl : k = s.size := by omega
      have e : s.data.toList.take s.size = s.data.toList := List.take_of_length_le (by rw [hss]; exact Nat.le_refl _)
      rw [e] at hbld
      have HBD := Lib.hid hbld
      have hbs := hb.size
      clear hbld
      go_wp2_with (go_at_call 143; (with_reducible refine (Tryz.Builder_String_any _ _ _ _ HBD.out hbs).mono ?_); rintro e w2 ⟨rfl, hb2⟩)
      go_ret
      exact ⟨rfl, hb.trans hb2⟩
end Go.Proofs.YtkekpiillbpciaaGreatDoor.KDict
