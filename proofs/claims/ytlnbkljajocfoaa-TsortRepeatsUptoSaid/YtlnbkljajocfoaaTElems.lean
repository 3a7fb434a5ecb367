/- The reference's name and Elements: the elements in the order in which they are named. -/
import Derived.Test.YtlnbkljajocfoaaTPlace
import Derived.Test.YtlnbkljajocfoaaTRead
import Derived.Deep.AppendLies
namespace Go.Proofs.Ytlnbkljajocfoaa.TElems
open Go Go.RowKit Strs TWords TPairs TGraph TRead TPlace

set_option maxHeartbeats 1000000 in
set_option maxRecDepth 100000 in
theorem name_any (v : Value) (ls : List Str) (x : Str) (base : Nat) (w : World) (h : w.ownsRow base 9 1 v ls.length (cellsOf ls)) (hb : base ≤ w.heap.size) (hl : ls.length ≤ 1073741824) :
    Calls Try.prog 31 #[v, .string ⟨x.toArray⟩] w fun e w' => ∃ v', e = .returned v' ∧ w'.ownsRow base 9 1 v' (addNew ls x).length (cellsOf (addNew ls x)) ∧ Below base w w' := by
  obtain ⟨i0, hi, hz0, hz1, hz2⟩ := info_parts str_info
  have hst : Strs w v ls := Strs.of_row (Own.Row.of h)
  have hp := Lib.hid (place_any v ls x w hst)
  have hblk := ownsRow_block h
  by_cases hin : x ∈ ls
  · have hpl : place ls x = (ls.idxOf x : Nat) := by unfold place; rw [if_pos hin]
    have ha : addNew ls x = ls := by unfold addNew; rw [if_pos hin]
    rw [hpl] at hp
    rw [ha]
    go_enter Try.func31, Try.ntmps31
    go_wp2_with (go_at_call 19
                 (with_reducible refine hp.out.mono ?_)
                 rintro e w1 ⟨rfl, rfl⟩)
    go_ret
    exact ⟨v, rfl, h, Below.refl _ _⟩
  · have hpl : place ls x = -1 := by unfold place; rw [if_neg hin]
    have ha : addNew ls x = ls ++ [x] := by unfold addNew; rw [if_neg hin]
    rw [hpl] at hp
    rw [ha]
    go_enter Try.func31, Try.ntmps31
    go_wp2_with (first
      | (go_at_call 19
         (with_reducible refine hp.out.mono ?_)
         rintro e w1 ⟨rfl, rfl⟩)
      | (at_builtin
         refine wpList_append_lies _ rfl _ _ _ rfl base 9 i0 _ 1 16 Try.underlying30 hi hz0 hz1 hz2 rfl (by omega) _ ls.length (cellsOf ls) rfl (h.alloc _) ⟨w.heap.size, 0, none⟩ 1 1 [.string ⟨x.toArray⟩] rfl rfl (World.news_of_block (cs := #[.string ⟨x.toArray⟩]) (t := 9) (fr := (0, 0)) (heap_alloc_new w _)) (by simp [Value.oneCell']) (by omega) (by unfold maxLen; omega) (by omega) (by simp; omega) (w.heap.size + 1) (by simp) ?_
         intro gg cap w2 hown2 hgrow hat hlt2))
    go_ret
    refine ⟨_, rfl, ?_, ((Below.refl base w).alloc hb _).grown hgrow (by simp; omega) (fun k hk => (hblk k hk).1)⟩
    have e1 : cellsOf (ls ++ [x]) = cellsOf ls ++ [Value.string ⟨x.toArray⟩] := by simp [cellsOf]
    rw [e1, show (ls ++ [x]).length = ls.length + 1 from by simp]
    exact hown2
set_option maxHeartbeats 2000000 in
set_option maxRecDepth 100000 in
theorem elements_any (v0 : Value) (ps : List (Str × Str)) (w : World) (hv : Prs w v0 ps) (hn : ps.length ≤ 16777216) :
    Calls Try.prog 18 #[v0] w fun e w' => ∃ v', e = .returned v' ∧ w'.ownsRow w.heap.size 9 1 v' (rd ps).1.length (cellsOf (rd ps).1) ∧ Below w.heap.size w w' := by
  obtain ⟨a0, cc, rfl, ⟨hlc, hcm⟩, hcell⟩ := hv
  have hcm' : cc ≤ 9223372036854775807 := hcm
  go_enter Try.func18, Try.ntmps18
  go_wp2
  go_loopw [3, 4] (fun ev i wr => ∃ k : Nat, k ≤ ps.length ∧ i = .int .i64 k ∧ wr.ownsRow w.heap.size 9 1 ev (rd (ps.take k)).1.length (cellsOf (rd (ps.take k)).1) ∧ Below w.heap.size w wr) (fun _ i _ => ps.length - (intOf i).toNat)
  case atStart => exact ⟨0, Nat.zero_le _, rfl, ⟨by simp [rd, cellsOf], .inl ⟨rfl, rfl⟩⟩, Below.refl _ _⟩
  case round =>
    obtain ⟨k, hk, rfl, hrow, hb⟩ := hrel
    by_cases hlt : k < ps.length
    · obtain ⟨p, hp⟩ : ∃ p, ps[k]? = some p := ⟨ps[k], List.getElem?_eq_getElem hlt⟩
      have hrd := Lib.hid (rd_take ps k p hp)
      obtain ⟨b0, off, rfl, hc⟩ := hcell (by intro e; rw [e] at hlt; simp at hlt)
      have q0 := (hc k p hp).1
      have q1 := (hc k p hp).2
      rw [Nat.mul_comm] at q0 q1
      have c0 := (hb.cell (World.block_lt_of_cell? w _ q0)).trans q0
      have c1 := (hb.cell (World.block_lt_of_cell? w _ q1)).trans q1
      have lb0 : b0 < w.heap.size := World.block_lt_of_cell? w _ q0
      have hki : (k : Int) < (ps.length : Int) := by omega
      have hlen := rd_len (ps.take k)
      have hlt2 : (ps.take k).length = k := by simp; omega
      rw [hlt2] at hlen
      generalize rd (ps.take k) = st at *
      obtain ⟨ls, es⟩ := st
      obtain ⟨x, y⟩ := p
      simp only at hrow hlen c0 c1
      have hal := addNew_length ls x
      have N1 := Lib.hid fun ev W h hb => name_any ev ls x w.heap.size W h hb (by omega)
      have N2 := Lib.hid fun ev W h hb => name_any ev (addNew ls x) y w.heap.size W h hb (by omega)
      have hrd2 : Hid ((rd (ps.take (k + 1))).1 = addNew (addNew ls x) y) := by rw [Hid, hrd.out]; rfl
      generalize (⟨x.toArray⟩ : ByteArray) = X at *
      generalize (⟨y.toArray⟩ : ByteArray) = Y at *
      clear hc hcell q0 q1 hlt2 hrd
      go_wp2_with (first
        | (go_at_call 31
           (with_reducible refine (N1.out _ _ hrow hb.size).mono ?_)
           rintro e w1 ⟨v1, rfl, hrow1, hb1⟩
           have c1' : w1.cell? ⟨b0, off + k * 2 + 1, none⟩ = some (.string Y) := (hb1.cell lb0).trans c1
           have hs1 := Nat.le_trans hb.size hb1.size)
        | (go_at_call 31
           (with_reducible refine (N2.out _ _ hrow1 hs1).mono ?_)
           rintro e w2 ⟨v2, rfl, hrow2, hb2⟩))
      go_roundw
      case rel => exact ⟨k + 1, by omega, by go_num, by rw [hrd2.out]; exact hrow2, (hb.trans hb1).trans hb2⟩
      case measure => simp [intOf]; omega
    · obtain rfl : k = ps.length := by omega
      rw [List.take_length] at hrow
      clear hcell
      go_wp2
      go_ret
      exact ⟨_, rfl, hrow, hb⟩
end Go.Proofs.Ytlnbkljajocfoaa.TElems
