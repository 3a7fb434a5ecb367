/- The walk of FrameDetects: it returns true for every string and every change; the table must hold its sixteen numbers. -/
import Derived.Test.YtfgfphodpghgbaaDoorFrameReturnsWalk
import Derived.Test.YtfgfphodpghgbaaDoorBurstMath
import Derived.Test.YtfgfphodpghgbaaDoorOwnAll
import Derived.RegionTactic
import Derived.ChangeAlike
import Derived.BigRegion
namespace Go.Proofs.YtfgfphodpghgbaaDoor.FrameDetectsWalk
open Go.RowKit FrameCrc FrameRec FrameNext FrameRefNext FrameAwake FrameDec FrameEnc FrameReturnsWalk Strs

theorem record_str (s : ByteArray) (w : World) (hs : s.size ≤ maxLen) (ht : TabHeld w) {r : List UInt8} {er : Int} (h : Crc.recStr s.data.toList = r ∧ Crc.recErr s.data.toList = er) :
    Calls Tryd.prog 18 #[.string s] w fun e w' => e = .returned (.tuple #[.string ⟨r.toArray⟩, .int .i64 er]) ∧ Below w.heap.size w w' := by
  have := record_any s w hs ht
  rw [h.1, h.2] at this
  exact this
/-- the change as it comes in -/
def dam (p : Int) (d0 d1 d2 d3 : UInt8) : Value := .agg #[.int .i64 p, .int .u8 d0.toNat, .int .u8 d1.toNat, .int .u8 d2.toNat, .int .u8 d3.toNat]

set_option maxHeartbeats 1000000 in
theorem walk_long (s : ByteArray) (p : Int) (d0 d1 d2 d3 : UInt8) (w : World) (hs : s.size ≤ maxLen) (ht : TabHeld w) (hl : 4096 < s.size) :
    Calls Tryd.prog 6 #[.string s, .agg #[.int .i64 p, .int .u8 d0.toNat, .int .u8 d1.toNat, .int .u8 d2.toNat, .int .u8 d3.toNat]] w fun e w' => e = .returned (.bool true) ∧ Below w.heap.size w w' := by
  have hr := Lib.hid (Crc.recStr_big s.data.toList (by simpa using hl))
  have hm : s.size ≤ 9223372036854775807 := by unfold maxLen at hs; omega
  have hq : decide ((s.size : Int) ≤ 4096) = false := by simp; omega
  go_enter Tryd.func6, Tryd.ntmps6
  go_wp2_with (go_at_call 18; refine (record_str _ _ hs (ht.alloc _) hr.out).mono ?_; rintro e w1 ⟨rfl, hb1⟩; have hb1' : Below w.heap.size w w1 := ((Below.refl _ _).alloc (Nat.le_refl _) _).trans (hb1.mono (by simp)); have ht1 := ht.below hb1')
  go_wp2_with (go_at_call 17; refine (awake_any _ ht1).mono ?_; rintro e w2 ⟨rfl, hb2⟩)
  go_ret
  exact ⟨rfl, hb1'.trans (hb2.mono hb1'.size)⟩
theorem box (w w1 : World) (p : Int) (d0 d1 d2 d3 : UInt8) (hb : Below (w.alloc (.cells #[.int .i64 p, .int .u8 d0.toNat, .int .u8 d1.toNat, .int .u8 d2.toNat, .int .u8 d3.toNat] 34)).heap.size (w.alloc (.cells #[.int .i64 p, .int .u8 d0.toNat, .int .u8 d1.toNat, .int .u8 d2.toNat, .int .u8 d3.toNat] 34)) w1) :
    w1.heap[w.heap.size]? = some (.cells #[.int .i64 p, .int .u8 d0.toNat, .int .u8 d1.toNat, .int .u8 d2.toNat, .int .u8 d3.toNat] 34 (0, 0)) := by
  rw [hb.block w.heap.size (by simp)]
  exact heap_alloc_new w _

set_option maxHeartbeats 1000000 in
theorem walk_low (s : ByteArray) (p : Int) (d0 d1 d2 d3 : UInt8) (w : World) (ht : TabHeld w) (hl : s.size ≤ 4096) (hp : p < 2) :
    Calls Tryd.prog 6 #[.string s, .agg #[.int .i64 p, .int .u8 d0.toNat, .int .u8 d1.toNat, .int .u8 d2.toNat, .int .u8 d3.toNat]] w fun e w' => e = .returned (.bool true) ∧ Below w.heap.size w w' := by
  have hr := Lib.hid (Crc.recStr_ok s.data.toList (by simpa using hl))
  have hm : s.size ≤ maxLen := by unfold maxLen; omega
  go_enter Tryd.func6, Tryd.ntmps6
  go_wp2_with (go_at_call 18; refine (record_str _ _ hm (ht.alloc _) hr.out).mono ?_; rintro e w1 ⟨rfl, hb1⟩; have hb1' : Below w.heap.size w w1 := ((Below.refl _ _).alloc (Nat.le_refl _) _).trans (hb1.mono (by simp)); have ht1 := ht.below hb1'; have c0 : w1.cell? ⟨w.heap.size, 0, none⟩ = some (.int .i64 p) := by rw [Own.cell_at _ _ 0 _ _ _ (box w w1 p d0 d1 d2 d3 hb1)]; rfl)
  go_wp2_with (go_at_call 17; refine (awake_any _ ht1).mono ?_; rintro e w2 ⟨rfl, hb2⟩)
  go_ret
  exact ⟨rfl, hb1'.trans (hb2.mono hb1'.size)⟩
set_option maxHeartbeats 1000000 in
theorem walk_high (s : ByteArray) (p : Int) (d0 d1 d2 d3 : UInt8) (w : World) (ht : TabHeld w) (hl : s.size ≤ 4096) (hp2 : 2 ≤ p) (hp : (s.size : Int) + 6 ≤ p) :
    Calls Tryd.prog 6 #[.string s, .agg #[.int .i64 p, .int .u8 d0.toNat, .int .u8 d1.toNat, .int .u8 d2.toNat, .int .u8 d3.toNat]] w fun e w' => e = .returned (.bool true) ∧ Below w.heap.size w w' := by
  have hr := Lib.hid (Crc.recStr_ok s.data.toList (by simpa using hl))
  have hm : s.size ≤ maxLen := by unfold maxLen; omega
  have hz : (⟨(Crc.record s.data.toList).toArray⟩ : ByteArray).size ≤ s.size + 6 := by rw [Base.str_size, Crc.record_length]; simp
  have hq : ((⟨(Crc.record s.data.toList).toArray⟩ : ByteArray).size : Int) ≤ p := by omega
  have hq1 : ((Crc.record s.data.toList).length : Int) ≤ p := by rw [Crc.record_length]; simp; omega
  go_enter Tryd.func6, Tryd.ntmps6
  go_wp2_with (go_at_call 18; refine (record_str _ _ hm (ht.alloc _) hr.out).mono ?_; rintro e w1 ⟨rfl, hb1⟩; have hb1' : Below w.heap.size w w1 := ((Below.refl _ _).alloc (Nat.le_refl _) _).trans (hb1.mono (by simp)); have ht1 := ht.below hb1'; have c0 : w1.cell? ⟨w.heap.size, 0, none⟩ = some (.int .i64 p) := by rw [Own.cell_at _ _ 0 _ _ _ (box w w1 p d0 d1 d2 d3 hb1)]; rfl)
  go_wp2_with (go_at_call 17; refine (awake_any _ ht1).mono ?_; rintro e w2 ⟨rfl, hb2⟩)
  go_ret
  exact ⟨rfl, hb1'.trans (hb2.mono hb1'.size)⟩

theorem xor8 (a b : UInt8) : bits .xor .u8 (a.toNat : Int) (b.toNat : Int) = (((a ^^^ b).toNat : Nat) : Int) := by
  rw [u8_xor_nat a.toNat b.toNat a.toNat_lt b.toNat_lt, UInt8.toNat_xor]

set_option maxHeartbeats 2000000 in
theorem walk_in (s : ByteArray) (k : Nat) (d0 d1 d2 d3 : UInt8) (w : World) (ht : TabHeld w) (hl : s.size ≤ 4096) (hp2 : 2 ≤ k) (hp : k < s.size + 6) :
    Calls Tryd.prog 6 #[.string s, .agg #[.int .i64 (k : Int), .int .u8 d0.toNat, .int .u8 d1.toNat, .int .u8 d2.toNat, .int .u8 d3.toNat]] w fun e w' => e = .returned (.bool true) ∧ Below w.heap.size w w' := by
  have hr := Lib.hid (Crc.recStr_ok s.data.toList (by simpa using hl))
  have hm : s.size ≤ maxLen := by unfold maxLen; omega
  have hdet := Crc.detects s.data.toList k [d0, d1, d2, d3] (by simpa using hl) hp2
  have hrl : (Crc.record s.data.toList).length = s.size + 6 := by rw [Crc.record_length]; simp
  have HD := Lib.hid hdet
  have hz : (⟨(Crc.record s.data.toList).toArray⟩ : ByteArray).size = s.size + 6 := by rw [Base.str_size, hrl]
  generalize hR : Crc.record s.data.toList = r at *
  generalize hn : s.size + 6 = n at *
  have hn2 : n ≤ 4102 := by omega
  have hn6 : 6 ≤ n := by omega
  have HL := Lib.hid hrl
  have hq1 : (k : Int) < (r.length : Int) := by omega
  have hnk : decide (n ≤ k) = false := by simp; omega
  have hk2 : decide ((k : Int) < 2) = false := by simp; omega
  clear hdet hR hrl hn
  go_enter Tryd.func6, Tryd.ntmps6
  go_wp2_with fail
  refine (record_str _ _ hm (ht.alloc _) hr.out).mono ?_
  rintro e w1 ⟨rfl, hb1⟩
  have hb1' : Below w.heap.size w w1 := ((Below.refl _ _).alloc (Nat.le_refl _) _).trans (hb1.mono (by simp))
  have ht1 := ht.below hb1'
  have hbox := box w w1 k d0 d1 d2 d3 hb1
  have c0 : w1.cell? ⟨w.heap.size, 0, none⟩ = some (.int .i64 (k : Int)) := by rw [Own.cell_at _ _ 0 _ _ _ hbox]; rfl
  have hBlt : w.heap.size < w1.heap.size := (Array.getElem?_eq_some_iff.1 hbox).1
  have HB := Lib.hid hbox
  obtain ⟨v0, w0, hr0, hrow0, hb0, -⟩ := Own.run_bytes (P := Tryd.prog) w1 9 35 5 ⟨r.toArray⟩ Tryd.underlying9 Tryd.underlying35 Tryd.underlying5 (by rw [hz]; unfold maxLen; omega)
  rw [hz] at hrow0
  obtain ⟨g, cap, rfl, hbg, -⟩ := hrow0.here (by omega)
  clear hbox
  have hb01 : Below w.heap.size w w0 := hb1'.trans (hb0.mono hb1'.size)
  go_wp2_with fail
  go_loopw [8] (fun i wr => ∃ j : Nat, j ≤ 4 ∧ k + j ≤ n + 4 ∧ i = .int .i64 j ∧
      Own.Row wr w1.heap.size 5 1 (.slice (some ⟨g, 0, none⟩) n cap) n (Own.byteCells (Crc.patch r k [d0, d1, d2, d3] j)) ∧ Below w1.heap.size w1 wr) (fun i _ => 4 - (intOf i).toNat)
  case atStart => exact ⟨0, by omega, by omega, rfl, hrow0, hb0⟩
  case round =>
    obtain ⟨j, hj, hkj, rfl, hrow, hb⟩ := hrel
    have c0 : wr.cell? ⟨w.heap.size, 0, none⟩ = some (.int .i64 (k : Int)) := by rw [hb.cell (p := ⟨w.heap.size, 0, none⟩) hBlt, Own.cell_at _ _ 0 _ _ _ HB.out]; rfl
    by_cases hlt : j < 4 ∧ k + j < n
    · obtain ⟨hj4, hkn⟩ := hlt
      obtain ⟨g', cap', e1, -, -, -, hcells, hfro⟩ := hrow.here (by omega)
      injection e1 with e1 e2 e3
      injection e1 with e1
      injection e1 with e1
      subst e1 e3
      have hpl := Crc.patch_length r k [d0, d1, d2, d3] j
      have hb0' : (Crc.patch r k [d0, d1, d2, d3] j)[k + j]? = some ((Crc.patch r k [d0, d1, d2, d3] j).getD (k + j) 0) := by
        rw [List.getD_eq_getElem?_getD, List.getElem?_eq_getElem (by rw [hpl, HL.out]; exact hkn)]; rfl
      have c1 : wr.cell? ⟨g, k + j, none⟩ = some (.int .u8 (((Crc.patch r k [d0, d1, d2, d3] j).getD (k + j) 0).toNat : Int)) := hcells (k + j) _ (by simp only [Own.byteCells, List.getElem?_map, hb0']; rfl)
      have f1 : wr.frozen? ⟨g, k + j, none⟩ = false := hfro (k + j) (by omega)
      have c2 : wr.cell? ⟨w.heap.size, 1 + j, none⟩ = some (.int .u8 (([d0, d1, d2, d3].getD j 0).toNat : Int)) := by
        rw [hb.cell (p := ⟨w.heap.size, 1 + j, none⟩) hBlt, Own.cell_at _ _ (1 + j) _ _ _ HB.out]
        have : j = 0 ∨ j = 1 ∨ j = 2 ∨ j = 3 := by omega
        rcases this with rfl | rfl | rfl | rfl <;> rfl
      have hx := xor8 ((Crc.patch r k [d0, d1, d2, d3] j).getD (k + j) 0) ([d0, d1, d2, d3].getD j 0)
      have hset : Hid (Crc.patch r k [d0, d1, d2, d3] (j + 1) = (Crc.patch r k [d0, d1, d2, d3] j).set (k + j) ((Crc.patch r k [d0, d1, d2, d3] j).getD (k + j) 0 ^^^ [d0, d1, d2, d3].getD j 0)) := rfl
      have hrow' := fun u => hrow.setCell (k + j) u
      have HR' := Lib.hid hrow'
      generalize (Crc.patch r k [d0, d1, d2, d3] j).getD (k + j) 0 = x at *
      generalize [d0, d1, d2, d3].getD j 0 = y at *
      generalize Crc.patch r k [d0, d1, d2, d3] j = pl at *
      clear hpl hb0' hcells hfro hrow'
      have wk : IntKind.i64.wrap ((k : Int) + (j : Int)) = (k : Int) + j := Base.wrap_add k j (by omega)
      have tk : ((k : Int) + (j : Int)).toNat = k + j := by omega
      have b1 : (k : Int) + (j : Int) < (n : Int) := by omega
      have b2 : (j : Int) < 4 := by omega
      have b3 : (j : Int) < (n : Int) - (k : Int) := by omega
      go_wp2_with fail
      go_region
      go_wp2
      go_roundw
      case rel =>
        refine ⟨j + 1, by omega, by omega, by go_num, ?_, ((hb.setCell (p := ⟨g, k + j, none⟩) hbg _).drew)⟩
        rw [hset.out]
        have e : Own.byteCells (pl.set (k + j) (x ^^^ y)) = (Own.byteCells pl).set (k + j) (.int .u8 ((x ^^^ y).toNat : Int)) := by simp [Own.byteCells, List.map_set]
        rw [e]
        exact HR'.out _
      case measure => simp [intOf]; omega
    · have hst : Hid (Crc.patch r k [d0, d1, d2, d3] j = Crc.patch r k [d0, d1, d2, d3] 4) := by
        have h1 := Crc.patch_stop r k [d0, d1, d2, d3] j (4 - j)
        have h2 := HL.out
        by_cases h4 : j = 4
        · subst h4; rfl
        · have := h1 (by omega)
          rw [show j + (4 - j) = 4 from by omega] at this
          exact this.symm
      rw [hst.out] at hrow
      have hpl := Crc.patch_length r k [d0, d1, d2, d3] 4
      have HD2 : Hid (Crc.patch r k [d0, d1, d2, d3] 4 ≠ r → Crc.nextR (Crc.patch r k [d0, d1, d2, d3] 4) = ([], 0, 13)) := HD.out
      generalize Crc.patch r k [d0, d1, d2, d3] 4 = pl at *
      have HPL := Lib.hid hpl
      have hrc := hrow.run_str (P := Tryd.prog) 35 9 Tryd.underlying35 Tryd.underlying5 Tryd.underlying9
      have ht4 : TabHeld wr := ht1.below hb
      have hbw : Below w.heap.size w wr := hb1'.trans (hb.mono hb1'.size)
      clear hpl hr0
      by_cases he : pl = r
      · have hq : (pl == r) = true := by simp [he]
        have t1 : (j : Int) < 4 → (n : Int) - (k : Int) ≤ (j : Int) := by omega
        clear he
        by_cases h4 : j < 4
        · have t2 : (n : Int) - (k : Int) ≤ (j : Int) := by omega
          clear t1 hlt
          go_wp2_with (go_at_call 17; refine (awake_any _ ht4).mono ?_; rintro e w5 ⟨rfl, hb5⟩)
          go_ret
          exact ⟨rfl, hbw.trans (hb5.mono hbw.size)⟩
        · clear t1 hlt
          go_wp2_with (go_at_call 17; refine (awake_any _ ht4).mono ?_; rintro e w5 ⟨rfl, hb5⟩)
          go_ret
          exact ⟨rfl, hbw.trans (hb5.mono hbw.size)⟩
      · have hq : (pl == r) = false := by simp [he]
        have hn : Crc.next pl ((0 : Nat) : Int) = ([], 0, 13) := Crc.next_bad pl 0 13 (by omega) (by rw [List.drop_zero]; exact HD2.out he) (by decide)
        have HN := Lib.hid hn
        have hpz : (⟨pl.toArray⟩ : ByteArray).size ≤ maxLen := by rw [Base.str_size, HPL.out, HL.out]; unfold maxLen; omega
        clear he hn
        by_cases h4 : j < 4
        · have t2 : (n : Int) - (k : Int) ≤ (j : Int) := by omega
          clear hlt
          go_wp2_with (first
            | (go_at_call 20; refine (next_val _ _ _ hpz ht4 HN.out).mono ?_; rintro e w5 ⟨rfl, hb5⟩; have ht5 := ht4.below hb5; have hb6 := hbw.trans (hb5.mono hbw.size))
            | (go_at_call 17; refine (awake_any _ ht5).mono ?_; rintro e w7 ⟨rfl, hb7⟩))
          go_ret
          exact ⟨rfl, hb6.trans (hb7.mono hb6.size)⟩
        · clear hlt
          go_wp2_with (first
            | (go_at_call 20; refine (next_val _ _ _ hpz ht4 HN.out).mono ?_; rintro e w5 ⟨rfl, hb5⟩; have ht5 := ht4.below hb5; have hb6 := hbw.trans (hb5.mono hbw.size))
            | (go_at_call 17; refine (awake_any _ ht5).mono ?_; rintro e w7 ⟨rfl, hb7⟩))
          go_ret
          exact ⟨rfl, hb6.trans (hb7.mono hb6.size)⟩
theorem walk (s : ByteArray) (p : Int) (d0 d1 d2 d3 : UInt8) (w : World) (hs : s.size ≤ maxLen) (ht : TabHeld w) :
    Calls Tryd.prog 6 #[.string s, .agg #[.int .i64 p, .int .u8 d0.toNat, .int .u8 d1.toNat, .int .u8 d2.toNat, .int .u8 d3.toNat]] w fun e w' => e = .returned (.bool true) ∧ Below w.heap.size w w' := by
  by_cases hl : 4096 < s.size
  · exact walk_long s p d0 d1 d2 d3 w hs ht hl
  · by_cases hp2 : p < 2
    · exact walk_low s p d0 d1 d2 d3 w ht (by omega) hp2
    · by_cases hp : (s.size : Int) + 6 ≤ p
      · exact walk_high s p d0 d1 d2 d3 w ht (by omega) (by omega) hp
      · obtain ⟨k, rfl⟩ := Int.eq_ofNat_of_zero_le (show 0 ≤ p by omega)
        exact walk_in s k d0 d1 d2 d3 w ht (by omega) (by omega) (by omega)
end Go.Proofs.YtfgfphodpghgbaaDoor.FrameDetectsWalk
