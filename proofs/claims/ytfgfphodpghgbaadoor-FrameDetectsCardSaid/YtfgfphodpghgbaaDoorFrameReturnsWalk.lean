/- The walk of FrameReturns: it returns true for all lines of together at most 2^20 bytes; the table must hold its sixteen numbers. -/
import Derived.Test.YtfgfphodpghgbaaDoorFrameDec
import Derived.Test.YtfgfphodpghgbaaDoorFrameEnc
import Derived.Test.YtfgfphodpghgbaaDoorRoundMath
namespace Go.Proofs.YtfgfphodpghgbaaDoor.FrameReturnsWalk
open Go.RowKit FrameCrc FrameRec FrameNext FrameRefNext FrameAwake FrameDec FrameEnc Strs

/-- Decode of what was encoded -/
theorem decode_val (s : List UInt8) (w : World) (hs : s.length ≤ 1073741824) (ht : TabHeld w) {ls : List (List UInt8)} {off er : Int} (h1 : (Crc.decode s).1 = ls) (h2 : Crc.decOff s = off) (h3 : (Crc.decode s).2.2 = er) :
    Calls Tryd.prog 22 #[.string ⟨s.toArray⟩] w fun e w' => ∃ v n, e = .returned (.tuple #[v, .int .i64 off, .int .i64 er]) ∧ Own.Row w' w.heap.size 9 1 v n (cellsOf ls) ∧ Below w.heap.size w w' := by
  have := decode_any ⟨s.toArray⟩ w (by rw [Base.str_size]; exact hs) ht
  unfold DecPost at this
  rw [show (⟨s.toArray⟩ : ByteArray).data.toList = s from rfl, h1, h2, h3] at this
  exact this
theorem encode_val (v : Value) (ls : List (List UInt8)) (w : World) (hv : Strs w v ls) (hu : Crc.total ls ≤ 1048576) (ht : TabHeld w) {s : List UInt8} {er : Int} (h1 : Crc.encStr ls = s) (h2 : Crc.encErr ls = er) :
    Calls Tryd.prog 36 #[v] w fun e w' => e = .returned (.tuple #[.string ⟨s.toArray⟩, .int .i64 er]) ∧ Below w.heap.size w w' := by
  have := encode_any v ls w hv hu ht
  unfold EncOut at this
  rw [h1, h2] at this
  exact this
theorem refEncode_val (v : Value) (ls : List (List UInt8)) (w : World) (hv : Strs w v ls) (hu : Crc.total ls ≤ 1048576) {s : List UInt8} {er : Int} (h1 : Crc.encStr ls = s) (h2 : Crc.encErr ls = er) :
    Calls Tryd.prog 37 #[v] w fun e w' => e = .returned (.tuple #[.string ⟨s.toArray⟩, .int .i64 er]) ∧ Below w.heap.size w w' := by
  have := refEncode_any v ls w hv hu
  unfold EncOut at this
  rw [h1, h2] at this
  exact this
theorem enc_long (ls : List (List UInt8)) (h : ¬ Crc.fits ls) : Crc.encStr ls = [] ∧ Crc.encErr ls = 3 := by
  unfold Crc.encStr Crc.encErr; rw [if_neg h, if_neg h]; exact ⟨rfl, rfl⟩

set_option maxHeartbeats 1000000 in
theorem walk_long (v : Value) (ls : List (List UInt8)) (w : World) (hv : Strs w v ls) (ht : TabHeld w) (hu : Crc.total ls ≤ 1048576) (hf : ¬ Crc.fits ls) :
    Calls Tryd.prog 10 #[v] w fun e w' => e = .returned (.bool true) ∧ Below w.heap.size w w' := by
  have HE := Lib.hid (enc_long ls hf)
  clear hf
  go_enter Tryd.func10, Tryd.ntmps10
  go_wp2_with fail
  refine (encode_val _ _ _ hv hu ht HE.out.1 HE.out.2).mono ?_
  rintro e w1 ⟨rfl, hb1⟩
  have hv1 := hv.below hb1
  go_wp2_with fail
  refine (refEncode_val _ _ _ hv1 hu HE.out.1 HE.out.2).mono ?_
  rintro e w2 ⟨rfl, hb2⟩
  have hb12 : Below w.heap.size w w2 := hb1.trans (hb2.mono hb1.size)
  have ht2 := ht.below hb12
  go_wp2_with (go_at_call 17; refine (awake_any _ ht2).mono ?_; rintro e w3 ⟨rfl, hb3⟩)
  go_ret
  exact ⟨rfl, hb12.trans (hb3.mono hb12.size)⟩

set_option maxHeartbeats 1000000 in
theorem walk_fits (v : Value) (ls : List (List UInt8)) (w : World) (hv : Strs w v ls) (ht : TabHeld w) (hu : Crc.total ls ≤ 1048576) (hf : Crc.fits ls) :
    Calls Tryd.prog 10 #[v] w fun e w' => e = .returned (.bool true) ∧ Below w.heap.size w w' := by
  have HE := Lib.hid (Crc.enc_good ls hf)
  have hd := Crc.decode_all ls hf
  have hel := Crc.encL_length_le ls
  have HD : Hid ((Crc.decode (Crc.encL ls)).1 = ls ∧ Crc.decOff (Crc.encL ls) = 0 ∧ (Crc.decode (Crc.encL ls)).2.2 = 0) := by
    unfold Crc.decOff; rw [hd]; exact ⟨rfl, rfl, rfl⟩
  have HF := Lib.hid hf
  have hsz : (Crc.encL ls).length ≤ 8388608 := by omega
  have hlt := Crc.length_le_total ls
  have hm2 : ls.length ≤ 1048576 := by omega
  clear hf hd hel
  go_enter Tryd.func10, Tryd.ntmps10
  go_wp2_with fail
  refine (encode_val _ _ _ hv hu ht HE.out.1 HE.out.2).mono ?_
  rintro e w1 ⟨rfl, hb1⟩
  have hv1 := hv.below hb1
  go_wp2_with fail
  refine (refEncode_val _ _ _ hv1 hu HE.out.1 HE.out.2).mono ?_
  rintro e w2 ⟨rfl, hb2⟩
  have hb12 : Below w.heap.size w w2 := hb1.trans (hb2.mono hb1.size)
  have ht2 := ht.below hb12
  go_wp2_with fail
  refine (decode_val _ _ (by omega) ht2 HD.out.1 HD.out.2.1 HD.out.2.2).mono ?_
  rintro e w3 ⟨vd, nd, rfl, hrd, hb3⟩
  have hb13 : Below w.heap.size w w3 := hb12.trans (hb3.mono hb12.size)
  have hv3 := hv.below hb13
  have ht3 := ht.below hb13
  have sd := Strs.of_row hrd
  obtain ⟨a, c, rfl, hm, hc⟩ := hv3
  have HM := Lib.hid hm
  clear hm
  go_wp2_with fail
  have HA : Hid (∀ k, k ≤ ls.length → (Crc.encL (ls.take k)).length ≤ (Crc.encL ls).length) := fun k _ => by rw [Crc.encL_drop ls k]; simp
  go_loopw [10, 11] (fun p i wr => ∃ k : Nat, k ≤ ls.length ∧ i = .int .i64 k ∧ p = .int .i64 ((Crc.encL (ls.take k)).length : Nat) ∧ Below w3.heap.size w3 wr) (fun _ i _ => ls.length - (intOf i).toNat)
  case atStart => exact ⟨0, Nat.zero_le _, rfl, by simp [Crc.encL], Below.refl _ _⟩
  case round =>
    obtain ⟨k, hk, rfl, rfl, hb⟩ := hrel
    have ht4 : TabHeld wr := ht3.below hb
    by_cases hkl : k < ls.length
    · obtain ⟨bx, ox, rfl, hcx⟩ := hc (by intro e; subst e; simp at hkl)
      have hcell : ∀ w4, Below wr.heap.size wr w4 → w4.cell? ⟨bx, ox + k, none⟩ = some (.string ⟨ls[k].toArray⟩) := by
        intro w4 h4
        have h1 := hcx k ls[k] (List.getElem?_eq_getElem hkl)
        rw [h4.cell (p := ⟨bx, ox + k, none⟩) (Nat.lt_of_lt_of_le (World.block_lt_of_cell? w3 _ h1) hb.size), hb.cell (p := ⟨bx, ox + k, none⟩) (World.block_lt_of_cell? w3 _ h1)]
        exact h1
      have HC := Lib.hid hcell
      have hnx := Crc.next_enc ls k hkl HF.out
      have htk := Crc.encL_take ls k hkl
      have htl := HA.out (k + 1) hkl
      rw [htk, List.length_append, Crc.record_length] at htl
      have hxz : ls[k].length ≤ 1048576 := by have := len_le ls k hkl; omega
      have b1 : (k : Int) < (ls.length : Int) := by omega
      generalize ls[k] = x at *
      generalize hp : (Crc.encL (ls.take k)).length = p at *
      have HP := Lib.hid hp
      have HN := Lib.hid hnx
      have HT := Lib.hid htk
      have HZ := Lib.hid (Base.str_size x)
      have w1' : IntKind.i64.wrap ((p : Int) + (x.length : Int)) = (p : Int) + x.length := Base.wrap_add p x.length (by omega)
      have q1 : ((p : Int) + ((x.length : Int) + 6) != (p : Int) + (x.length : Int) + 6) = false := by simp; omega
      clear hcell hcx hnx htk hp hc
      have hem : (⟨(Crc.encL ls).toArray⟩ : ByteArray).size ≤ maxLen := by rw [Base.str_size]; unfold maxLen; omega
      have hxs : (⟨x.toArray⟩ : ByteArray).size ≤ 1048576 := by rw [Base.str_size]; exact hxz
      go_wp2_with (go_at_call 20
                   refine (next_val _ _ _ hem ht4 HN.out).mono ?_
                   rintro e w5 ⟨rfl, hb5⟩
                   have hcell := HC.out w5 hb5
                   have hb6 : Below w3.heap.size w3 w5 := hb.trans (hb5.mono hb.size))
      go_roundw
      case rel =>
        refine ⟨k + 1, by omega, by go_num, ?_, hb6⟩
        rw [HT.out, List.length_append, Crc.record_length, HP.out]; go_num
      case measure => simp [intOf]; omega
    · obtain rfl : k = ls.length := by omega
      rw [List.take_of_length_le (Nat.le_refl _)]
      have sd1 := sd.below hb
      have sv1 : Strs wr (.slice a ls.length c) ls := Strs.below ⟨a, c, rfl, HM.out, hc⟩ hb
      have hq : decide (ls = ls) = true := by simp
      clear hc
      go_wp2_with (go_at_call 24; refine (same_any _ _ _ _ _ sd1 sv1).mono ?_; rintro e w7 ⟨rfl, n7, rfl⟩)
      have hb7 : Below w3.heap.size w3 (wr.drewN n7) := Base.below_drewN hb n7
      go_wp2_with (go_at_call 17; refine (awake_any _ (ht4.drewN n7)).mono ?_; rintro e w8 ⟨rfl, hb8⟩)
      go_ret
      exact ⟨rfl, hb13.trans ((hb7.trans (hb8.mono hb7.size)).mono hb13.size)⟩
theorem walk (v : Value) (ls : List (List UInt8)) (w : World) (hv : Strs w v ls) (ht : TabHeld w) (hu : Crc.total ls ≤ 1048576) :
    Calls Tryd.prog 10 #[v] w fun e w' => e = .returned (.bool true) ∧ Below w.heap.size w w' := by
  by_cases hf : Crc.fits ls
  · exact walk_fits v ls w hv ht hu hf
  · exact walk_long v ls w hv ht hu hf
end Go.Proofs.YtfgfphodpghgbaaDoor.FrameReturnsWalk
