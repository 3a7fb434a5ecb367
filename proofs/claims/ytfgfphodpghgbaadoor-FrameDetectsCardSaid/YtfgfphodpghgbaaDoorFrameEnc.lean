/- frame.Encode and the reference's Encode return the records of all lines, or the error, for lines of together at most 2^20 bytes; the table must hold its sixteen numbers. -/
import Derived.Test.YtfgfphodpghgbaaDoorFrameRec
import Derived.Test.YtfgfphodpghgbaaDoorEncMath
import Derived.Test.YtfgfphodpghgbaaDoorStrs
import Derived.Test.YtfgfphodpghgbaaDoorBuilder
import Derived.Test.YtfgfphodpghgbaaDoorShelf
namespace Go.Proofs.YtfgfphodpghgbaaDoor.FrameEnc
open Go.RowKit FrameCrc FrameRec Strs

def EncOut (w : World) (ls : List (List UInt8)) (e : Ending) (w' : World) : Prop :=
  e = .returned (.tuple #[.string ⟨(Crc.encStr ls).toArray⟩, .int .i64 (Crc.encErr ls)]) ∧ Below w.heap.size w w'
theorem record_val (x : List UInt8) (w : World) (hx : x.length ≤ 1048576) (ht : TabHeld w) {r : List UInt8} {e0 : Int} (h : Crc.recStr x = r ∧ Crc.recErr x = e0) :
    Calls Tryd.prog 18 #[.string ⟨x.toArray⟩] w fun e w' => e = .returned (.tuple #[.string ⟨r.toArray⟩, .int .i64 e0]) ∧ Below w.heap.size w w' := by
  have := record_any ⟨x.toArray⟩ w (by rw [Base.str_size]; unfold maxLen; omega) ht
  rw [show (⟨x.toArray⟩ : ByteArray).data.toList = x from rfl, h.1, h.2] at this
  exact this
theorem refRecord_val (x : List UInt8) (w : World) (hx : x.length ≤ 1048576) {r : List UInt8} {e0 : Int} (h : Crc.recStr x = r ∧ Crc.recErr x = e0) :
    Calls Tryd.prog 19 #[.string ⟨x.toArray⟩] w fun e w' => e = .returned (.tuple #[.string ⟨r.toArray⟩, .int .i64 e0]) ∧ Below w.heap.size w w' := by
  have := refRecord_any ⟨x.toArray⟩ w (by rw [Base.str_size]; unfold maxLen; omega)
  rw [show (⟨x.toArray⟩ : ByteArray).data.toList = x from rfl, h.1, h.2] at this
  exact this
theorem isBuilder_below {T e : TypeId} {B b : Nat} {bs : List Value} {w w' : World} (h : Lib.IsBuilder T e B b bs w) (hb : Below w.heap.size w w') : Lib.IsBuilder T e B b bs w' := by
  have key : ∀ p, Lib.BuilderAt T e B b p bs w → Lib.BuilderAt T e B b p bs w' := by
    rintro p ⟨hB, v, hbk, hown, hne⟩
    have hlt : b < w.heap.size := (Array.getElem?_eq_some_iff.1 hbk).1
    refine ⟨hB, v, by rw [hb.block b hlt]; exact hbk, ?_, hne⟩
    refine ⟨hown.1, ?_⟩
    rcases hown.2 with hn | ⟨g, cap, cur, hv, hg, hh, rest⟩
    · exact .inl hn
    · exact .inr ⟨g, cap, cur, hv, hg, by rw [hb.block g (Array.getElem?_eq_some_iff.1 hh).1]; exact hh, rest⟩
  rcases h with h | h
  · exact .inl (key _ h)
  · exact .inr (key _ h)
theorem strCells_eq (r : List UInt8) : Lib.strCells ⟨r.toArray⟩ = Own.byteCells r := by simp [Lib.strCells, Own.byteCells]
theorem libCells_eq (r : List UInt8) : Lib.byteCells r = Own.byteCells r := rfl
theorem len_le (ls : List (List UInt8)) (k : Nat) (h : k < ls.length) : ls[k].length + 1 ≤ Crc.total ls := by
  have h1 := Crc.total_take ls (k + 1)
  rw [Crc.take_snoc ls k h, Crc.total_append, Crc.total_cons] at h1
  omega

set_option maxHeartbeats 1000000 in
theorem refEncode_any (v : Value) (ls : List (List UInt8)) (w : World) (hv : Strs w v ls) (hu : Crc.total ls ≤ 1048576) :
    Calls Tryd.prog 37 #[v] w (EncOut w ls) := by
  obtain ⟨i0, hi, hz0, hz1, hz2⟩ := info_parts byte_info
  have hlt := Crc.length_le_total ls
  obtain ⟨a, c, rfl, hm, hc⟩ := hv
  have hm2 : ls.length ≤ 1048576 := by omega
  clear hm
  go_enter Tryd.func37, Tryd.ntmps37
  go_wp2
  go_loopw [4, 5] (fun b i wr => ∃ k : Nat, k ≤ ls.length ∧ i = .int .i64 k ∧ Crc.fits (ls.take k) ∧
      Own.Row wr w.heap.size 5 1 b (Crc.encL (ls.take k)).length (Own.byteCells (Crc.encL (ls.take k))) ∧ Below w.heap.size w wr) (fun _ i _ => ls.length - (intOf i).toNat)
  case atStart => exact ⟨0, Nat.zero_le _, rfl, fun l hm => by simp at hm, by simpa [Crc.encL, Own.byteCells] using Own.Row.nil _ _ _ _, Below.refl _ _⟩
  case round =>
    obtain ⟨k, hk, rfl, hf, hrow, hb⟩ := hrel
    by_cases hkl : k < ls.length
    · obtain ⟨bx, ox, rfl, hcx⟩ := hc (by intro e; subst e; simp at hkl)
      have hcell : wr.cell? ⟨bx, ox + k, none⟩ = some (.string ⟨ls[k].toArray⟩) := by
        have h1 := hcx k ls[k] (List.getElem?_eq_getElem hkl)
        rw [hb.cell (p := ⟨bx, ox + k, none⟩) (World.block_lt_of_cell? w _ h1)]
        exact h1
      have hx1 := len_le ls k hkl
      have hxz : ls[k].length ≤ 1048576 := by omega
      clear hc hcx
      by_cases hbig : 4096 < ls[k].length
      · have hr := Crc.recStr_big _ hbig
        have hE := Lib.hid (Crc.enc_bad ls k hkl hbig)
        have HF := Lib.hid hf
        have b1 : (k : Int) < (ls.length : Int) := by omega
        generalize ls[k] = x at *
        have HR := Lib.hid hr
        clear hr hf
        go_wp2_with (go_at_call 19; refine (refRecord_val _ _ hxz HR.out).mono ?_; rintro e w1 ⟨rfl, hb1⟩)
        go_ret2
        unfold EncOut
        rw [hE.out.1, hE.out.2]
        exact ⟨rfl, hb.trans (hb1.mono hb.size)⟩
      · have hr := Crc.recStr_ok _ (Nat.le_of_not_lt hbig)
        have hft := Crc.fits_take ls k hkl hf (Nat.le_of_not_lt hbig)
        have hen := Crc.encL_take ls k hkl
        have hel := Crc.encL_length_le (ls.take (k + 1))
        have het := Crc.total_take ls (k + 1)
        have hrl := Crc.record_length ls[k]
        have b1 : (k : Int) < (ls.length : Int) := by omega
        rw [hen, List.length_append] at hel
        have n1 : (Crc.encL (ls.take k)).length + (⟨(Crc.record ls[k]).toArray⟩ : ByteArray).size ≤ maxLen := by rw [Base.str_size]; unfold maxLen; omega
        have n2 : (Crc.encL (ls.take k)).length + (⟨(Crc.record ls[k]).toArray⟩ : ByteArray).size ≤ 140737488355328 := by rw [Base.str_size]; omega
        have HS := Lib.hid (strCells_eq (Crc.record ls[k]))
        have HZ := Lib.hid (Base.str_size (Crc.record ls[k]))
        generalize ls[k] = x at *
        have HF := Lib.hid hft
        have HR := Lib.hid hr
        have HN := Lib.hid hen
        clear hr hf hft hen hel het hrl
        go_wp2_with (first
          | (go_at_call 19
             refine (refRecord_val _ _ hxz HR.out).mono ?_
             rintro e w1 ⟨rfl, hb1⟩
             have hrow1 := hrow.below hb1
             have hbw : Below w.heap.size w w1 := hb.trans (hb1.mono hb.size))
          | (at_builtin
             refine Own.wpList_appendM_string _ rfl _ _ 35 9 rfl w.heap.size 5 i0 Tryd.underlying35 Tryd.underlying9 hi hz0 hz1 hz2 _ _ _ rfl hrow1 _ rfl n1 n2 hbw.size ?_
             intro v' w2 hrow2 hg2 hb2))
        go_roundw
        case rel =>
          refine ⟨k + 1, by omega, by go_num, HF.out, ?_, hbw.trans hb2⟩
          rw [HN.out, List.length_append, Own.byteCells_append, ← HS.out, ← HZ.out]
          exact hrow2
        case measure => simp [intOf]; omega
    · obtain rfl : k = ls.length := by omega
      rw [List.take_of_length_le (Nat.le_refl _)] at hf hrow
      have hE := Lib.hid (Crc.enc_good ls hf)
      clear hf hc
      have hrc := hrow.run_str (P := Tryd.prog) 35 9 Tryd.underlying35 Tryd.underlying5 Tryd.underlying9
      go_wp2
      go_ret2
      unfold EncOut
      rw [hE.out.1, hE.out.2]
      exact ⟨rfl, hb⟩

set_option maxHeartbeats 1000000 in
theorem encode_any (v : Value) (ls : List (List UInt8)) (w : World) (hv : Strs w v ls) (hu : Crc.total ls ≤ 1048576) (ht : TabHeld w) :
    Calls Tryd.prog 36 #[v] w (EncOut w ls) := by
  have hlt := Crc.length_le_total ls
  obtain ⟨a, c, rfl, hm, hc⟩ := hv
  have hm2 : ls.length ≤ 1048576 := by omega
  clear hm
  go_enter Tryd.func36, Tryd.ntmps36
  go_wp2
  go_loopw [11] (fun i wr => ∃ k : Nat, k ≤ ls.length ∧ i = .int .i64 k ∧ Crc.fits (ls.take k) ∧
      Lib.IsBuilder 67 5 w.heap.size w.heap.size (Own.byteCells (Crc.encL (ls.take k))) wr ∧ Below w.heap.size w wr) (fun i _ => ls.length - (intOf i).toNat)
  case atStart => exact ⟨0, Nat.zero_le _, rfl, fun l hm => by simp at hm, by simpa [Crc.encL, Own.byteCells] using Lib.fresh_isBuilder _ _ _, (Below.refl _ _).alloc (Nat.le_refl _) _⟩
  case round =>
    obtain ⟨k, hk, rfl, hf, hbu, hb⟩ := hrel
    have ht1 : TabHeld wr := ht.below hb
    by_cases hkl : k < ls.length
    · obtain ⟨bx, ox, rfl, hcx⟩ := hc (by intro e; subst e; simp at hkl)
      have hcell : wr.cell? ⟨bx, ox + k, none⟩ = some (.string ⟨ls[k].toArray⟩) := by
        have h1 := hcx k ls[k] (List.getElem?_eq_getElem hkl)
        rw [hb.cell (p := ⟨bx, ox + k, none⟩) (World.block_lt_of_cell? w _ h1)]
        exact h1
      have hx1 := len_le ls k hkl
      have hxz : ls[k].length ≤ 1048576 := by omega
      clear hc hcx
      by_cases hbig : 4096 < ls[k].length
      · have hr := Crc.recStr_big _ hbig
        have hE := Lib.hid (Crc.enc_bad ls k hkl hbig)
        have HF := Lib.hid hf
        have b1 : (k : Int) < (ls.length : Int) := by omega
        generalize ls[k] = x at *
        have HR := Lib.hid hr
        clear hr hf
        go_wp2_with (go_at_call 18; refine (record_val _ _ hxz ht1 HR.out).mono ?_; rintro e w1 ⟨rfl, hb1⟩)
        go_ret2
        unfold EncOut
        rw [hE.out.1, hE.out.2]
        exact ⟨rfl, hb.trans (hb1.mono hb.size)⟩
      · have hr := Crc.recStr_ok _ (Nat.le_of_not_lt hbig)
        have hft := Crc.fits_take ls k hkl hf (Nat.le_of_not_lt hbig)
        have hen := Crc.encL_take ls k hkl
        have hel := Crc.encL_length_le (ls.take (k + 1))
        have het := Crc.total_take ls (k + 1)
        have hrl := Crc.record_length ls[k]
        have b1 : (k : Int) < (ls.length : Int) := by omega
        rw [hen, List.length_append] at hel
        have n2 : (Own.byteCells (Crc.encL (ls.take k))).length + (⟨(Crc.record ls[k]).toArray⟩ : ByteArray).size ≤ 140737488355328 := by rw [Base.str_size, Own.byteCells_length]; omega
        have HS := Lib.hid (strCells_eq (Crc.record ls[k]))
        generalize ls[k] = x at *
        have HF := Lib.hid hft
        have HR := Lib.hid hr
        have HN := Lib.hid hen
        clear hr hf hft hen hel het hrl
        go_wp2_with (first
          | (go_at_call 18
             refine (record_val _ _ hxz ht1 HR.out).mono ?_
             rintro e w1 ⟨rfl, hb1⟩
             have hbw : Below w.heap.size w w1 := hb.trans (hb1.mono hb.size)
             have hbu1 := isBuilder_below hbu hb1)
          | (go_at_call 52
             refine (Builder.writeString _ _ _ _ _ hbu1 n2 hbw.size).mono ?_
             rintro e w2 ⟨rfl, hbu2, hb2⟩))
        go_roundw
        case rel =>
          refine ⟨k + 1, by omega, by go_num, HF.out, ?_, hbw.trans hb2⟩
          rw [HN.out, Own.byteCells_append, ← HS.out]
          exact .inr hbu2
        case measure => simp [intOf]; omega
    · obtain rfl : k = ls.length := by omega
      rw [List.take_of_length_le (Nat.le_refl _)] at hf hbu
      have hE := Lib.hid (Crc.enc_good ls hf)
      clear hf hc
      go_wp2_with (go_at_call 53; refine (Tryd.Builder_String_any _ _ _ _ hbu hb.size).mono ?_; rintro e w2 ⟨rfl, hb2⟩)
      go_ret2
      unfold EncOut
      rw [hE.out.1, hE.out.2]
      exact ⟨rfl, hb.trans hb2⟩
end Go.Proofs.YtfgfphodpghgbaaDoor.FrameEnc
