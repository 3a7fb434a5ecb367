/- The reference's remove: a list without its element at an index. -/
import Derived.Test.YtlnbkljajocfoaaTRefBefore
namespace Go.Proofs.Ytlnbkljajocfoaa.TRefRemove
open Go Go.RowKit Strs TWords TPairs TGraph TRead TPlace TElems TParse TCons TRefBefore

theorem erase_take (ls : List Str) (at_ k : Nat) (x : Str) (h : ls[k]? = some x) : (ls.take (k + 1)).eraseIdx at_ = if k = at_ then (ls.take k).eraseIdx at_ else (ls.take k).eraseIdx at_ ++ [x] := by
  have hk := (List.getElem?_eq_some_iff.1 h).1
  have hl : (ls.take k).length = k := by simp; omega
  rw [List.take_add_one, h]
  show (ls.take k ++ [x]).eraseIdx at_ = _
  by_cases e : k = at_
  · subst e
    rw [if_pos rfl, List.eraseIdx_append_of_length_le (by omega), hl, Nat.sub_self, List.eraseIdx_of_length_le (l := ls.take k) (by omega)]
    simp
  · rw [if_neg e]
    by_cases hlt : at_ < k
    · rw [List.eraseIdx_append_of_lt_length (by omega)]
    · rw [List.eraseIdx_of_length_le (by simp; omega), List.eraseIdx_of_length_le (by omega)]
set_option maxHeartbeats 2000000 in
set_option maxRecDepth 100000 in
theorem remove_any (v0 : Value) (ls : List Str) (at_ : Nat) (w : World) (hv : Strs w v0 ls) (hn : ls.length ≤ 1073741824) :
    Calls Try.prog 29 #[v0, .int .i64 (at_ : Nat)] w fun e w' => ∃ v', e = .returned v' ∧ w'.ownsRow w.heap.size 9 1 v' (ls.eraseIdx at_).length (cellsOf (ls.eraseIdx at_)) ∧ Below w.heap.size w w' := by
  obtain ⟨i0, hi, hz0, hz1, hz2⟩ := info_parts str_info
  obtain ⟨a0, cc, rfl, ⟨hlc, hcm⟩, hcell⟩ := hv
  have hcm' : cc ≤ 9223372036854775807 := hcm
  go_enter Try.func29, Try.ntmps29
  go_wp2
  go_loopw [5, 6] (fun ev i wr => ∃ k : Nat, k ≤ ls.length ∧ i = .int .i64 k ∧ wr.ownsRow w.heap.size 9 1 ev ((ls.take k).eraseIdx at_).length (cellsOf ((ls.take k).eraseIdx at_)) ∧ Below w.heap.size w wr) (fun _ i _ => ls.length - (intOf i).toNat)
  case atStart => exact ⟨0, Nat.zero_le _, rfl, ⟨by simp [cellsOf], .inl ⟨rfl, rfl⟩⟩, Below.refl _ _⟩
  case round =>
    obtain ⟨k, hk, rfl, hrow, hb⟩ := hrel
    by_cases hlt : k < ls.length
    · obtain ⟨x, hx⟩ : ∃ x, ls[k]? = some x := ⟨ls[k], List.getElem?_eq_getElem hlt⟩
      have het := erase_take ls at_ k x hx
      obtain ⟨b0, off, rfl, hc⟩ := hcell (by intro e; rw [e] at hlt; simp at hlt)
      have q0 := hc k x hx
      have c0 := (hb.cell (World.block_lt_of_cell? w _ q0)).trans q0
      have hki : (k : Int) < (ls.length : Int) := by omega
      have hlen : ((ls.take k).eraseIdx at_).length ≤ k := by rw [List.length_eraseIdx]; split <;> simp <;> omega
      generalize (ls.take k).eraseIdx at_ = cs at *
      clear hc hcell q0
      by_cases hka : k = at_
      · rw [if_pos hka] at het
        have HC := Lib.hid het
        have hne : ((k : Int) != (at_ : Int)) = false := by simp [hka]
        clear het hka
        go_wp2
        go_roundw
        case rel => exact ⟨k + 1, by omega, by go_num, by rw [HC.out]; exact hrow, hb⟩
        case measure => simp [intOf]; omega
      · rw [if_neg hka] at het
        have HC : Hid (cellsOf ((ls.take (k + 1)).eraseIdx at_) = cellsOf cs ++ [.string ⟨x.toArray⟩]) := by rw [Hid, het]; simp [cellsOf]
        have HL : Hid (((ls.take (k + 1)).eraseIdx at_).length = cs.length + 1) := by rw [Hid, het]; simp
        have hne : ((k : Int) != (at_ : Int)) = true := by simp; omega
        have hblk := ownsRow_block hrow
        have hbs := hb.size
        clear het hka
        go_wp2_with (at_builtin
                     refine wpList_append_lies _ rfl _ _ _ rfl w.heap.size 9 i0 _ 1 16 Try.underlying30 hi hz0 hz1 hz2 rfl (by omega) _ cs.length (cellsOf cs) rfl (hrow.alloc _) ⟨wr.heap.size, 0, none⟩ 1 1 [.string ⟨x.toArray⟩] rfl rfl (World.news_of_block (cs := #[.string ⟨x.toArray⟩]) (t := 9) (fr := (0, 0)) (heap_alloc_new wr _)) (by simp [Value.oneCell']) (by omega) (by unfold maxLen; omega) (by omega) (by simp; omega) (wr.heap.size + 1) (by simp) ?_
                     intro gg cap w2 hown2 hgrow hat hlt2)
        go_roundw
        case rel =>
          refine ⟨k + 1, by omega, by go_num, by rw [HL.out, HC.out]; exact hown2, ?_⟩
          exact (hb.alloc hbs _).grown hgrow (by simp; omega) (fun q hq => (hblk q hq).1)
        case measure => simp [intOf]; omega
    · obtain rfl : k = ls.length := by omega
      rw [List.take_length] at hrow
      clear hcell
      go_wp2
      go_ret
      exact ⟨_, rfl, hrow, hb⟩
end Go.Proofs.Ytlnbkljajocfoaa.TRefRemove
