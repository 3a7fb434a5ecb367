/- text.Words and the reference's Words return the words of a string, for strings of at most 2^40 bytes. -/
import Derived.Test.YtlnbkljajocfoaaProg
import Derived.Test.YtlnbkljajocfoaaBase
import Derived.Test.YtlnbkljajocfoaaOwn
import Derived.Test.YtlnbkljajocfoaaStrs
import Derived.Test.YtlnbkljajocfoaaWordMath
import Derived.WalkKit
import Derived.Handy
import Derived.WalkLawsBesides
import Derived.WalkSpells
import Derived.Outline
import Derived.Below
import Derived.Lib.BufferRead
import Derived.Laws.Pointers
import Derived.Deep.RegionLaw
import Derived.Deep.AppendLies
namespace Go.Proofs.Ytlnbkljajocfoaa.TWords
open Go Go.RowKit Strs

theorem str_info : (Try.prog.info? 9).map (fun i => (i.zero, i.size, i.bytes)) = some (some (.string ⟨#[]⟩), 1, 16) := by kernel_rfl

theorem space_any (c : Nat) (w : World) (hc : c < 256) :
    Calls Try.prog 34 #[.int .i32 (c : Int)] w fun e w' => e = .returned (.bool (Wd.isSp c)) ∧ w = w' := by
  have h : c = 32 ∨ c = 9 ∨ c = 10 ∨ (c ≠ 32 ∧ c ≠ 9 ∧ c ≠ 10) := by omega
  rcases h with rfl | rfl | rfl | ⟨h1, h2, h3⟩
  · go_enter Try.func34, Try.ntmps34
    go_wp2
    go_ret
    exact ⟨rfl, rfl⟩
  · go_enter Try.func34, Try.ntmps34
    go_wp2
    go_ret
    exact ⟨rfl, rfl⟩
  · go_enter Try.func34, Try.ntmps34
    go_wp2
    go_ret
    exact ⟨rfl, rfl⟩
  · have e : Wd.isSp c = false := by simp [Wd.isSp, h1, h2, h3]
    rw [e]
    have e1 : ((c : Int) == 32) = false := by simp; omega
    have e2 : ((c : Int) == 9) = false := by simp; omega
    have e3 : ((c : Int) == 10) = false := by simp; omega
    go_enter Try.func34, Try.ntmps34
    go_wp2
    go_ret
    exact ⟨rfl, rfl⟩
theorem refSpace_any (c : Nat) (w : World) (hc : c < 256) :
    Calls Try.prog 35 #[.int .u8 (c : Int)] w fun e w' => e = .returned (.bool (Wd.isSp c)) ∧ w = w' := by
  have h : c = 32 ∨ c = 9 ∨ c = 10 ∨ (c ≠ 32 ∧ c ≠ 9 ∧ c ≠ 10) := by omega
  rcases h with rfl | rfl | rfl | ⟨h1, h2, h3⟩
  · go_enter Try.func35, Try.ntmps35
    go_wp2
    go_ret
    exact ⟨rfl, rfl⟩
  · go_enter Try.func35, Try.ntmps35
    go_wp2
    go_ret
    exact ⟨rfl, rfl⟩
  · go_enter Try.func35, Try.ntmps35
    go_wp2
    go_ret
    exact ⟨rfl, rfl⟩
  · have e : Wd.isSp c = false := by simp [Wd.isSp, h1, h2, h3]
    rw [e]
    have e1 : ((c : Int) == 32) = false := by simp; omega
    have e2 : ((c : Int) == 9) = false := by simp; omega
    have e3 : ((c : Int) == 10) = false := by simp; omega
    go_enter Try.func35, Try.ntmps35
    go_wp2
    go_ret
    exact ⟨rfl, rfl⟩

/-- the three variables of Words -/
structure Inv (B : Nat) (s : ByteArray) (p : List (List UInt8) × Int) (w : World) : Prop where
  str : w.heap[B]? = some (.cells #[.string s] 9 (0, 0))
  out : ∃ v, w.heap[B + 1]? = some (.cells #[v] 30 (0, 0)) ∧ w.ownsRow (B + 3) 9 1 v p.1.length (cellsOf p.1)
  frm : w.heap[B + 2]? = some (.cells #[.int .i64 p.2] 3 (0, 0))
theorem lt_of_block {w : World} {k : Nat} {o : Obj} (h : w.heap[k]? = some o) : k < w.heap.size := (Array.getElem?_eq_some_iff.1 h).1
theorem one_setCell {w : World} {g : Nat} {v : Value} {t : TypeId} (h : w.heap[g]? = some (.cells #[v] t (0, 0))) (u : Value) : (w.setCell ⟨g, 0, none⟩ u).heap[g]? = some (.cells #[u] t (0, 0)) := by
  simp [World.setCell, Array.getElem?_modify, h]
theorem ownsRow_keep {w w' : World} {base : Nat} {e : TypeId} {size : Nat} {v : Value} {n : Nat} {xs : List Value} (h : w.ownsRow base e size v n xs) (hk : ∀ k, v.ownBlock = some k → w'.heap[k]? = w.heap[k]?) : w'.ownsRow base e size v n xs := by
  refine ⟨h.1, ?_⟩
  rcases h.2 with hn | ⟨g, cap, cur, hv, hb, hg, rest⟩
  · exact .inl hn
  · subst hv
    exact .inr ⟨g, cap, cur, rfl, hb, by rw [hk g (by simp [Value.ownBlock])]; exact hg, rest⟩
theorem ownsRow_block {w : World} {base : Nat} {e : TypeId} {size : Nat} {v : Value} {n : Nat} {xs : List Value} (h : w.ownsRow base e size v n xs) : ∀ k, v.ownBlock = some k → base ≤ k ∧ k < w.heap.size := by
  intro k hk
  rcases h.2 with ⟨rfl, _⟩ | ⟨g, cap, cur, rfl, hb, hg, _⟩
  · simp [Value.ownBlock] at hk
  · simp [Value.ownBlock] at hk
    subst hk
    exact ⟨hb, lt_of_block hg⟩

set_option maxHeartbeats 1000000 in
set_option maxRecDepth 100000 in
theorem end_any (B : Nat) (s : ByteArray) (p : List (List UInt8) × Int) (k : Nat) (w : World) (h : Inv B s p w) (hok : Wd.Ok p k) (hk : k ≤ s.size) (hs : s.size ≤ 1099511627776) :
    Calls Try.prog 33 #[.int .i64 k, .pointer (some ⟨B + 2, 0, none⟩), .pointer (some ⟨B + 1, 0, none⟩), .pointer (some ⟨B, 0, none⟩)] w
      fun e w' => e = .returned (.tuple #[]) ∧ Inv B s (Wd.fin s.data.toList p k) w' ∧ Below B w w' := by
  obtain ⟨hstr, ⟨v, hout, hown⟩, hfrm⟩ := h
  obtain ⟨h1, h2, h3⟩ := hok
  have cS : w.cell? ⟨B, 0, none⟩ = some (.string s) := cell_of_one hstr
  have cO : w.cell? ⟨B + 1, 0, none⟩ = some v := cell_of_one hout
  have cF : w.cell? ⟨B + 2, 0, none⟩ = some (.int .i64 p.2) := cell_of_one hfrm
  obtain ⟨i0, hi, hz0, hz1, hz2⟩ := info_parts str_info
  by_cases hf : 0 ≤ p.2
  · obtain ⟨f, hfe⟩ : ∃ f : Nat, p.2 = (f : Int) := ⟨p.2.toNat, by omega⟩
    have hfin : Wd.fin s.data.toList p k = (p.1 ++ [Wd.cut s.data.toList p.2 k], -1) := by unfold Wd.fin; rw [if_pos hf]
    rw [hfin]
    rw [hfe] at cF
    have hfk : f < k := by omega
    have hcut : (s.extract f k).data.toList = Wd.cut s.data.toList p.2 k := by
      rw [hfe, Lib.extract_data]; rfl
    have hsl : ∀ W, (Instr.slice 9 (.string s) (some (.int .i64 (f : Int))) (some (.int .i64 (k : Int))) none).run Try.prog W = .ok (.string (s.extract f k)) W := fun W => run_slice_string W _ s .i64 .i64 _ _ Try.underlying9 (by omega) (by omega) (by omega)
    have hx : Hid (Value.string (s.extract f k) = .string ⟨(Wd.cut s.data.toList p.2 k).toArray⟩) := by
      show _ = _
      rw [← hcut]
    generalize s.extract f k = x at *
    have lO := lt_of_block hout
    have lF := lt_of_block hfrm
    have lS := lt_of_block hstr
    have hblk := ownsRow_block hown
    have aO : v.ownBlock ≠ some (B + 1) := fun e => by have := (hblk _ e).1; omega
    have aF : v.ownBlock ≠ some (B + 2) := fun e => by have := (hblk _ e).1; omega
    have aS : v.ownBlock ≠ some B := fun e => by have := (hblk _ e).1; omega
    clear hcut hfin
    go_enter Try.func33, Try.ntmps33
    go_wp2_with fail
    go_region_law
      ((refine step_append_lies _ (by rfl) _ _ _ (by rfl) (B + 3) 9 i0 _ 1 16 Try.underlying30 hi hz0 hz1 hz2 rfl (by omega) v p.1.length (cellsOf p.1) (by rfl) ((hown.alloc _).drew)
          ⟨w.heap.size, 0, none⟩ 1 1 [.string x] (by rfl) (by rfl) (World.news_of_block (cs := #[.string x]) (t := 9) (fr := (0, 0)) (heap_alloc_new w _)) (by simp [Value.oneCell'])
          (by omega) (by unfold maxLen; omega) (by omega) (by simp; omega) (w.heap.size + 1) (by simp) ?_; intro gg cap w1 hown1 hgrow hat hlt
        have hout1 : w1.heap[B + 1]? = some (.cells #[v] 30 (0, 0)) := (hgrow.block (B + 1) (by simp; omega) (Ne.symm aO)).trans ((Below.heap_alloc w _ (B + 1) lO).trans hout)
        have fO1 := free_of_one hout1
        have cO1 := cell_of_one hout1
        have hstr1 : w1.heap[B]? = some (.cells #[.string s] 9 (0, 0)) := (hgrow.block B (by simp; omega) (Ne.symm aS)).trans ((Below.heap_alloc w _ B lS).trans hstr)
        have cS1 : w1.cell? ⟨B, 0, none⟩ = some (.string s) := cell_of_one hstr1
        have hfrm1 : w1.heap[B + 2]? = some (.cells #[.int .i64 p.2] 3 (0, 0)) := (hgrow.block (B + 2) (by simp; omega) (Ne.symm aF)).trans ((Below.heap_alloc w _ (B + 2) lF).trans hfrm)
        have fF1 := free_of_one hfrm1
        have cF1 : w1.cell? ⟨B + 2, 0, none⟩ = some (.int .i64 f) := by rw [cell_of_one hfrm1, hfe]))
    all_goals
      go_wp2
      go_end0
      have hl1 : (cellsOf p.1 ++ [Value.string x]) = cellsOf (p.1 ++ [Wd.cut s.data.toList p.2 k]) := by
        rw [hx.out]; simp [cellsOf]
      have hbl := ownsRow_block hown1
      refine ⟨rfl, ⟨?_, ⟨.slice (some ⟨gg, 0, none⟩) (p.1.length + 1) cap, ?_, ?_⟩, ?_⟩, ?_⟩
      · exact (Below.heap_setCell _ _ _ _ (by show B ≠ B + 2; omega)).trans ((Below.heap_setCell _ _ _ _ (by show B ≠ B + 1; omega)).trans hstr1)
      · exact (Below.heap_setCell _ _ _ _ (by show B + 1 ≠ B + 2; omega)).trans (one_setCell hout1 _)
      · rw [hl1] at hown1
        have e : (p.1 ++ [Wd.cut s.data.toList p.2 k]).length = p.1.length + 1 := by simp
        show World.ownsRow _ _ _ _ _ (p.1 ++ [Wd.cut s.data.toList p.2 k]).length _
        rw [e]
        exact ownsRow_keep hown1 fun j hj => by
          have := (hbl j hj).1
          rw [Below.heap_setCell _ _ _ _ (by show j ≠ B + 2; omega), Below.heap_setCell _ _ _ _ (by show j ≠ B + 1; omega)]
      · exact one_setCell ((Below.heap_setCell _ _ _ _ (by show B + 2 ≠ B + 1; omega)).trans hfrm1) _
      · refine Below.setCell (Below.setCell ?_ (by show B ≤ B + 1; omega) _) (by show B ≤ B + 2; omega) _
        exact ((Below.refl B w).alloc (by omega) _).drew.grown hgrow (by simp; omega) (fun j hj => by have := (hblk j hj).1; omega)
  · have hfin : Wd.fin s.data.toList p k = p := by unfold Wd.fin; rw [if_neg hf]
    rw [hfin]
    go_enter Try.func33, Try.ntmps33
    go_wp2
    go_end0
    exact ⟨rfl, ⟨hstr, ⟨v, hout, hown⟩, hfrm⟩, Below.refl _ _⟩

/-- what a call of Words leaves -/
def WPost (w : World) (l : List UInt8) (e : Ending) (w' : World) : Prop :=
  ∃ v, e = .returned v ∧ Own.Row w' w.heap.size 9 1 v (Wd.words l).length (cellsOf (Wd.words l)) ∧ Below w.heap.size w w'
theorem Inv.below {B C : Nat} {s : ByteArray} {p : List (List UInt8) × Int} {w w' : World} (h : Inv B s p w) (hb : Below C w w') (hC : w.heap.size ≤ C) : Inv B s p w' := by
  obtain ⟨h1, ⟨v, h2, h3⟩, h4⟩ := h
  have l1 := lt_of_block h1
  have l2 := lt_of_block h2
  have l4 := lt_of_block h4
  exact ⟨(hb.block _ (by omega)).trans h1, ⟨v, (hb.block _ (by omega)).trans h2, ownsRow_keep h3 fun j hj => hb.block j (by have := (ownsRow_block h3 j hj).2; omega)⟩, (hb.block _ (by omega)).trans h4⟩
theorem Inv.start (w : World) (s : ByteArray) (W : World)
    (e : W = ((w.alloc (.cells #[.string s] 9)).alloc (.cells #[.slice none 0 0] 30)).alloc (.cells #[.int .i64 (-1)] 3)) :
    Inv w.heap.size s (Wd.st s.data.toList 0) W ∧ Below w.heap.size w W := by
  subst e
  have e1 : (w.alloc (.cells #[.string s] 9)).heap.size = w.heap.size + 1 := by simp
  have e2 : ((w.alloc (.cells #[.string s] 9)).alloc (.cells #[.slice none 0 0] 30)).heap.size = w.heap.size + 2 := by simp
  have h0 := heap_alloc_new w (.cells #[.string s] 9)
  have h1 := heap_alloc_new (w.alloc (.cells #[.string s] 9)) (.cells #[.slice none 0 0] 30)
  have h2 := heap_alloc_new ((w.alloc (.cells #[.string s] 9)).alloc (.cells #[.slice none 0 0] 30)) (.cells #[.int .i64 (-1)] 3)
  rw [e1] at h1
  rw [e2] at h2
  refine ⟨⟨?_, ⟨.slice none 0 0, ?_, ⟨by simp [Wd.st, cellsOf], .inl ⟨rfl, rfl⟩⟩⟩, h2⟩, ?_⟩
  · rw [Below.heap_alloc _ _ _ (by simp <;> omega), Below.heap_alloc _ _ _ (by simp)]
    exact h0
  · rw [Below.heap_alloc _ _ _ (by simp)]
    exact h1
  · exact (((Below.refl _ _).alloc (Nat.le_refl _) _).alloc (by simp) _).alloc (by simp <;> omega) _

set_option maxHeartbeats 2000000 in
set_option maxRecDepth 100000 in
theorem words_any (s : ByteArray) (w : World) (hs : s.size ≤ 1099511627776) :
    Calls Try.prog 21 #[.string s] w (WPost w s.data.toList) := by
  have hsl : s.data.toList.length = s.size := by simp
  go_enter Try.func21, Try.ntmps21
  go_wp2
  go_loopw [10] (fun i wr => ∃ k : Nat, k ≤ s.size ∧ i = .int .i64 k ∧ Inv w.heap.size s (Wd.st s.data.toList k) wr ∧ Below w.heap.size w wr) (fun i _ => s.size - (intOf i).toNat)
  case atStart => exact ⟨0, Nat.zero_le _, rfl, (Inv.start w s _ rfl).1, (Inv.start w s _ rfl).2⟩
  case round =>
    obtain ⟨k, hk, rfl, hinv, hb⟩ := hrel
    have hok := Wd.st_ok s.data.toList k
    obtain ⟨v, hout, hown⟩ := hinv.out
    have cS : wr.cell? ⟨w.heap.size, 0, none⟩ = some (.string s) := cell_of_one hinv.str
    have cO : wr.cell? ⟨w.heap.size + 1, 0, none⟩ = some v := cell_of_one hout
    have cF := cell_of_one hinv.frm
    have fF := free_of_one hinv.frm
    have lF := lt_of_block hinv.frm
    by_cases hlt : k < s.size
    · have hkl : k < s.data.toList.length := by omega
      have hge : s.data.toList.getD k 0 = s[k] := by
        rw [List.getD_eq_getElem?_getD, List.getElem?_eq_getElem hkl]; rfl
      have hst : Hid (Wd.st s.data.toList (k + 1) = if Wd.isSp s[k].toNat then Wd.fin s.data.toList (Wd.st s.data.toList k) k else if (Wd.st s.data.toList k).2 < 0 then ((Wd.st s.data.toList k).1, (k : Int)) else Wd.st s.data.toList k) := by
        rw [← hge]; rfl
      have hc : s[k].toNat < 256 := UInt8.toNat_lt _
      have hsp := Lib.hid fun w => space_any s[k].toNat w hc
      have hen : Hid (∀ W, Inv w.heap.size s (Wd.st s.data.toList k) W → Calls Try.prog 33 #[.int .i64 ((k : Nat) : Int), .pointer (some ⟨w.heap.size + 1 + 1, 0, none⟩), .pointer (some ⟨w.heap.size + 1, 0, none⟩), .pointer (some ⟨w.heap.size, 0, none⟩)] W
          fun e w' => e = .returned (.tuple #[]) ∧ Inv w.heap.size s (Wd.fin s.data.toList (Wd.st s.data.toList k) k) w' ∧ Below w.heap.size W w') := fun W h => end_any w.heap.size s (Wd.st s.data.toList k) k W h hok hk hs
      cases hb' : Wd.isSp s[k].toNat with
      | true =>
        rw [hb'] at hsp hst
        clear hout hown cO
        have hinv0 := Lib.hid hinv
        clear hinv
        go_wp2_with (first
          | (go_at_call 34
             (with_reducible refine (hsp.out _).mono ?_)
             rintro e w1 ⟨rfl, rfl⟩)
          | (go_at_call 33
             (with_reducible refine (hen.out _ hinv0.out).mono ?_)
             rintro e w2 ⟨rfl, hinv2, hb2⟩))
        go_roundw
        case rel => exact ⟨k + 1, by omega, by go_num, by rw [hst.out]; exact hinv2, hb.trans hb2⟩
        case measure => simp [intOf]; omega
      | false =>
        rw [hb'] at hsp hst
        by_cases hf : (Wd.st s.data.toList k).2 < 0
        · have hst2 : Hid (Wd.st s.data.toList (k + 1) = ((Wd.st s.data.toList k).1, (k : Int))) := by rw [Hid, hst.out, if_neg (by simp), if_pos hf]
          generalize Wd.st s.data.toList k = p at *
          have hinv0 := Lib.hid hinv
          clear hinv hst hen
          go_wp2_with (go_at_call 34
                       (with_reducible refine (hsp.out _).mono ?_)
                       rintro e w1 ⟨rfl, rfl⟩)
          go_roundw
          case rel =>
            refine ⟨k + 1, by omega, by go_num, ?_, hb.setCell (by show w.heap.size ≤ w.heap.size + 2; omega) _⟩
            rw [hst2.out]
            refine ⟨(Below.heap_setCell _ _ _ _ (by show w.heap.size ≠ w.heap.size + 2; omega)).trans hinv0.out.str, ⟨v, (Below.heap_setCell _ _ _ _ (by show w.heap.size + 1 ≠ w.heap.size + 2; omega)).trans hout, ?_⟩, one_setCell hinv0.out.frm _⟩
            exact ownsRow_keep hown fun j hj => Below.heap_setCell _ _ _ _ (by have := (ownsRow_block hown j hj).1; show j ≠ w.heap.size + 2; omega)
          case measure => simp [intOf]; omega
        · have hst2 : Hid (Wd.st s.data.toList (k + 1) = Wd.st s.data.toList k) := by rw [Hid, hst.out, if_neg (by simp), if_neg hf]
          generalize Wd.st s.data.toList k = p at *
          have hinv0 := Lib.hid hinv
          clear hinv hst hen
          go_wp2_with (go_at_call 34
                       (with_reducible refine (hsp.out _).mono ?_)
                       rintro e w1 ⟨rfl, rfl⟩)
          go_roundw
          case rel => exact ⟨k + 1, by omega, by go_num, by rw [hst2.out]; exact hinv0.out, hb⟩
          case measure => simp [intOf]; omega
    · obtain rfl : k = s.size := by omega
      have hen : Hid (∀ W, Inv w.heap.size s (Wd.st s.data.toList s.size) W → Calls Try.prog 33 #[.int .i64 ((s.size : Nat) : Int), .pointer (some ⟨w.heap.size + 1 + 1, 0, none⟩), .pointer (some ⟨w.heap.size + 1, 0, none⟩), .pointer (some ⟨w.heap.size, 0, none⟩)] W
          fun e w' => e = .returned (.tuple #[]) ∧ Inv w.heap.size s (Wd.fin s.data.toList (Wd.st s.data.toList s.size) s.size) w' ∧ Below w.heap.size W w') := fun W h => end_any w.heap.size s (Wd.st s.data.toList s.size) s.size W h hok (Nat.le_refl _) hs
      have hinv0 := Lib.hid hinv
      clear hinv hout hown cO
      go_wp2_with (go_at_call 33
                   (with_reducible refine (hen.out _ hinv0.out).mono ?_)
                   rintro e w2 ⟨rfl, hinv2, hb2⟩
                   obtain ⟨v2, hout2, hown2⟩ := hinv2.out
                   have cO2 := cell_of_one hout2)
      go_ret
      have e : (Wd.fin s.data.toList (Wd.st s.data.toList s.size) s.size).1 = Wd.words s.data.toList := by unfold Wd.words; rw [hsl]
      rw [e] at hown2
      exact ⟨v2, rfl, (Own.Row.of hown2).mono (by omega), hb.trans hb2⟩
end Go.Proofs.Ytlnbkljajocfoaa.TWords
