/- The walk of FrameCuts: it returns true for all lines of together at most 2^20 bytes and any offset; the table must hold its sixteen numbers. -/
import Derived.Test.YtfgfphodpghgbaaDoorFrameReturnsWalk
namespace Go.Proofs.YtfgfphodpghgbaaDoor.FrameCutsWalk
open Go.RowKit FrameCrc FrameRec FrameNext FrameRefNext FrameAwake FrameDec FrameEnc FrameReturnsWalk Strs

/-- whole, from the k-th line on: where the count stands -/
def WInv (ls : List (List UInt8)) (cut k p : Nat) : Prop :=
  p ≤ cut ∧ k ≤ ls.length ∧ Crc.whole ls cut = (k + (Crc.whole (ls.drop k) (cut - p)).1, p + (Crc.whole (ls.drop k) (cut - p)).2) ∧ p + (Crc.encL (ls.drop k)).length = (Crc.encL ls).length
theorem winv_start (ls : List (List UInt8)) (cut : Nat) : WInv ls cut 0 0 := ⟨by omega, by omega, by simp, by simp⟩
theorem winv_end (ls : List (List UInt8)) (cut p : Nat) (h : WInv ls cut ls.length p) : Crc.whole ls cut = (ls.length, p) := by
  have := h.2.2.1
  rw [List.drop_length] at this
  rw [this]; simp [Crc.whole]
theorem winv_stop (ls : List (List UInt8)) (cut k p : Nat) (h : WInv ls cut k p) (hk : k < ls.length) (hc : cut < p + (ls[k].length + 6)) : Crc.whole ls cut = (k, p) := by
  have := h.2.2.1
  have hp := h.1
  rw [List.drop_eq_getElem_cons hk, Crc.whole, if_pos (by omega)] at this
  rw [this]; simp
theorem winv_step (ls : List (List UInt8)) (cut k p : Nat) (h : WInv ls cut k p) (hk : k < ls.length) (hc : p + (ls[k].length + 6) ≤ cut) : WInv ls cut (k + 1) (p + (ls[k].length + 6)) := by
  obtain ⟨hp, _, hw, hl⟩ := h
  rw [List.drop_eq_getElem_cons hk] at hw hl
  rw [Crc.whole, if_neg (by omega)] at hw
  refine ⟨hc, hk, ?_, ?_⟩
  · rw [hw, show cut - (p + (ls[k].length + 6)) = cut - p - (ls[k].length + 6) from by omega]
    simp only [Prod.mk.injEq]
    omega
  · simp only [Crc.encL, List.length_append, Crc.record_length] at hl
    omega

set_option maxHeartbeats 1000000 in
theorem whole_any (v : Value) (ls : List (List UInt8)) (cut : Nat) (w : World) (hv : Strs w v ls) (hu : Crc.total ls ≤ 1048576) (hcut : cut ≤ (Crc.encL ls).length) {n p0 : Nat} (hr : Crc.whole ls cut = (n, p0)) :
    Calls Tryd.prog 38 #[v, .int .i64 (cut : Int)] w fun e w' => e = .returned (.tuple #[.int .i64 (n : Int), .int .i64 (p0 : Int)]) ∧ w = w' := by
  have hlt := Crc.length_le_total ls
  have hel := Crc.encL_length_le ls
  obtain ⟨a, c, rfl, hm, hc⟩ := hv
  have hm2 : ls.length ≤ 1048576 := by omega
  have hc2 : cut ≤ 8388608 := by omega
  have HR := Lib.hid hr
  clear hm hr hel
  go_enter Tryd.func38, Tryd.ntmps38
  go_wp2
  go_loop [6, 7] (fun p i => ∃ k q : Nat, i = .int .i64 k ∧ p = .int .i64 q ∧ WInv ls cut k q) (fun _ i => ls.length - (intOf i).toNat)
  case atStart => exact ⟨0, 0, rfl, rfl, winv_start _ _⟩
  case round =>
    obtain ⟨k, p, rfl, rfl, hinv⟩ := hrel
    have hp := hinv.1
    have hk := hinv.2.1
    have HI := Lib.hid hinv
    clear hinv
    by_cases hkl : k < ls.length
    · obtain ⟨bx, ox, rfl, hcx⟩ := hc (by intro e; subst e; simp at hkl)
      have hcell := hcx k ls[k] (List.getElem?_eq_getElem hkl)
      have hxz : ls[k].length ≤ 1048576 := by have := len_le ls k hkl; omega
      have b1 : (k : Int) < (ls.length : Int) := by omega
      have hst : ls[k].length + p + 6 ≤ cut ∨ cut < ls[k].length + p + 6 := by omega
      have HS : Hid (p + (ls[k].length + 6) ≤ cut → WInv ls cut (k + 1) (p + (ls[k].length + 6))) := winv_step ls cut k p HI.out hkl
      have HE : Hid (cut < p + (ls[k].length + 6) → Crc.whole ls cut = (k, p)) := winv_stop ls cut k p HI.out hkl
      generalize ls[k] = x at *
      have hxs : (⟨x.toArray⟩ : ByteArray).size = x.length := Base.str_size x
      clear hcx hc
      by_cases hlt2 : cut < p + (x.length + 6)
      · have hq : (cut : Int) < (p : Int) + (x.length : Int) + 6 := by omega
        have hV := HE.out hlt2
        rw [HR.out] at hV
        have HV := Lib.hid hV
        clear hV hst
        go_wp2
        go_ret2
        have h1 := HV.out
        simp only [Prod.mk.injEq] at h1
        obtain ⟨rfl, rfl⟩ := h1
        exact ⟨rfl, rfl⟩
      · have hq : (p : Int) + (x.length : Int) + 6 ≤ (cut : Int) := by omega
        have HW := Lib.hid (HS.out (by omega))
        clear hst
        go_wp2
        go_round
        case rel => exact ⟨k + 1, p + (x.length + 6), by go_num, by go_num, HW.out⟩
        case measure => simp [intOf]; omega
    · obtain rfl : k = ls.length := by omega
      have hV := winv_end ls cut p HI.out
      rw [HR.out] at hV
      have HV := Lib.hid hV
      clear hV hc
      go_wp2
      go_ret2
      have h1 := HV.out
      simp only [Prod.mk.injEq] at h1
      obtain ⟨rfl, rfl⟩ := h1
      exact ⟨rfl, rfl⟩
theorem run_head {P : Program} (t e : TypeId) (ht : P.underlying t = some (.slice e)) (hz : ∀ w, (Go.sizeOf e).run P w = .ok 1 w) (a : Option Addr) (len cap k : Nat) (hk : k ≤ cap) (w : World) :
    (Instr.slice t (.slice a len cap) none (some (.int .i64 (k : Int))) none).run P w = .ok (.slice a k cap) w := by
  have ht' : P.underlying t = some (.slice (P.elem t)) := by simp [Program.elem, ht]
  have he : P.elem t = e := by simp [Program.elem, ht]
  rw [run_slice_h w t a len cap ht' .i64 k (by omega) (by omega), he, hz]
  simp only [Result.andThen, sliced, Int.toNat_natCast, Nat.sub_zero, Nat.zero_mul]
  congr 2
  split
  · rfl
  · cases a <;> simp [Addr.add]

set_option maxHeartbeats 1000000 in
theorem walk_awake (v : Value) (ls : List (List UInt8)) (cut : Int) (w : World) (hv : Strs w v ls) (ht : TabHeld w) (hu : Crc.total ls ≤ 1048576) (hf : ¬ Crc.fits ls) :
    Calls Tryd.prog 11 #[v, .int .i64 cut] w fun e w' => e = .returned (.bool true) ∧ Below w.heap.size w w' := by
  have HE := Lib.hid (enc_long ls hf)
  clear hf
  go_enter Tryd.func11, Tryd.ntmps11
  go_wp2_with fail
  refine (encode_val _ _ _ hv hu ht HE.out.1 HE.out.2).mono ?_
  rintro e w1 ⟨rfl, hb1⟩
  have ht1 := ht.below hb1
  go_wp2_with (go_at_call 17; refine (awake_any _ ht1).mono ?_; rintro e w3 ⟨rfl, hb3⟩)
  go_ret
  exact ⟨rfl, hb1.trans (hb3.mono hb1.size)⟩
set_option maxHeartbeats 1000000 in
theorem walk_out (v : Value) (ls : List (List UInt8)) (cut : Int) (w : World) (hv : Strs w v ls) (ht : TabHeld w) (hu : Crc.total ls ≤ 1048576) (hf : Crc.fits ls) (hc : cut < 0 ∨ ((Crc.encL ls).length : Int) < cut) :
    Calls Tryd.prog 11 #[v, .int .i64 cut] w fun e w' => e = .returned (.bool true) ∧ Below w.heap.size w w' := by
  have HE := Lib.hid (Crc.enc_good ls hf)
  have HZ := Base.str_size (Crc.encL ls)
  by_cases hc0 : cut < 0
  · clear hf hc HZ
    go_enter Tryd.func11, Tryd.ntmps11
    go_wp2_with fail
    refine (encode_val _ _ _ hv hu ht HE.out.1 HE.out.2).mono ?_
    rintro e w1 ⟨rfl, hb1⟩
    have ht1 := ht.below hb1
    go_wp2_with (go_at_call 17; refine (awake_any _ ht1).mono ?_; rintro e w3 ⟨rfl, hb3⟩)
    go_ret
    exact ⟨rfl, hb1.trans (hb3.mono hb1.size)⟩
  · have hc1 : ((⟨(Crc.encL ls).toArray⟩ : ByteArray).size : Int) < cut := by omega
    have hc2 : ((Crc.encL ls).length : Int) < cut := by omega
    have hc3 : 0 ≤ cut := by omega
    clear hf hc hc0 HZ
    go_enter Tryd.func11, Tryd.ntmps11
    go_wp2_with fail
    refine (encode_val _ _ _ hv hu ht HE.out.1 HE.out.2).mono ?_
    rintro e w1 ⟨rfl, hb1⟩
    have ht1 := ht.below hb1
    go_wp2_with (go_at_call 17; refine (awake_any _ ht1).mono ?_; rintro e w3 ⟨rfl, hb3⟩)
    go_ret
    exact ⟨rfl, hb1.trans (hb3.mono hb1.size)⟩
set_option maxHeartbeats 1000000 in
theorem walk_in (v : Value) (ls : List (List UInt8)) (k : Nat) (w : World) (hv : Strs w v ls) (ht : TabHeld w) (hu : Crc.total ls ≤ 1048576) (hf : Crc.fits ls) (hc : k ≤ (Crc.encL ls).length) :
    Calls Tryd.prog 11 #[v, .int .i64 (k : Int)] w fun e w' => e = .returned (.bool true) ∧ Below w.heap.size w w' := by
  have HE := Lib.hid (Crc.enc_good ls hf)
  have hd := Crc.decode_cut ls k hf hc
  have hel := Crc.encL_length_le ls
  have hwl := Crc.whole_le ls k
  have hp : ((Crc.encL ls).take k).length ≤ 1073741824 := by simp; omega
  generalize hw : Crc.whole ls k = q at *
  obtain ⟨n, p⟩ := q
  simp only at hd hwl
  have HW := Lib.hid hw
  have hz : k ≤ (⟨(Crc.encL ls).toArray⟩ : ByteArray).size := by rw [Base.str_size]; exact hc
  have hcut : ∀ W, (Instr.slice 9 (.string ⟨(Crc.encL ls).toArray⟩) none (some (.int .i64 (k : Int))) none).run Tryd.prog W = .ok (.string ⟨((Crc.encL ls).take k).toArray⟩) W := fun W => by
    rw [run_slice_string_h W _ _ Tryd.underlying9 .i64 _ (by omega) (by omega)]
    congr 2
    apply ByteArray.ext
    apply Array.toList_inj.1
    rw [Lib.extract_data]
    simp
  have HK := Lib.hid hc
  have HF := Lib.hid hf
  obtain ⟨a, c, rfl, hm, hcc⟩ := hv
  have hnc : n ≤ c := by omega
  have hln : ∀ W, (Instr.slice 37 (.slice a ls.length c) none (some (.int .i64 (n : Int))) none).run Tryd.prog W = .ok (.slice a n c) W := fun W => run_head _ _ Tryd.underlying37 Tryd.sizeOf9 a ls.length c n hnc W
  have hv : Strs w (.slice a ls.length c) ls := ⟨a, c, rfl, hm, hcc⟩
  have hc1 : (k : Int) ≤ ((Crc.encL ls).length : Int) := by omega
  have hc1' : (k : Int) ≤ ((⟨(Crc.encL ls).toArray⟩ : ByteArray).size : Int) := by omega
  have hnl : n ≤ ls.length := hwl.1
  have hlt := Crc.length_le_total ls
  clear hw hc hf hm hcc hel hwl
  by_cases he : p = k
  · have HD : Hid ((Crc.decode ((Crc.encL ls).take k)).1 = ls.take n ∧ Crc.decOff ((Crc.encL ls).take k) = 0 ∧ (Crc.decode ((Crc.encL ls).take k)).2.2 = 0) := by
      unfold Crc.decOff; rw [hd, if_pos he]; exact ⟨rfl, rfl, rfl⟩
    have hq : ((p : Int) == (k : Int)) = true := by simp [he]
    have hq2 : decide (ls.take n = ls.take n) = true := by simp
    clear hd he
    go_enter Tryd.func11, Tryd.ntmps11
    go_wp2_with fail
    refine (encode_val _ _ _ hv hu ht HE.out.1 HE.out.2).mono ?_
    rintro e w1 ⟨rfl, hb1⟩
    have hv1 := hv.below hb1
    have ht1 := ht.below hb1
    go_wp2_with fail
    refine (whole_any _ _ _ _ hv1 hu HK.out HW.out).mono ?_
    rintro e w' ⟨rfl, rfl⟩
    go_wp2_with fail
    refine (decode_val _ _ hp ht1 HD.out.1 HD.out.2.1 HD.out.2.2).mono ?_
    rintro e w2 ⟨vd, nd, rfl, hrd, hb2⟩
    have hb12 : Below w.heap.size w w2 := hb1.trans (hb2.mono hb1.size)
    have sd := Strs.of_row hrd
    have sv := (hv.below hb12).take n hnl
    have ht2 := ht.below hb12
    go_wp2_with fail
    refine (same_any _ _ _ _ _ sd sv).mono ?_
    rintro e w7 ⟨rfl, n7, rfl⟩
    have hb7 : Below w.heap.size w (w2.drewN n7) := Base.below_drewN hb12 n7
    go_wp2_with (go_at_call 17; refine (awake_any _ (ht2.drewN n7)).mono ?_; rintro e w8 ⟨rfl, hb8⟩)
    go_ret
    exact ⟨rfl, hb7.trans (hb8.mono hb7.size)⟩
  · have HD : Hid ((Crc.decode ((Crc.encL ls).take k)).1 = ls.take n ∧ Crc.decOff ((Crc.encL ls).take k) = (p : Int) ∧ (Crc.decode ((Crc.encL ls).take k)).2.2 = 14) := by
      unfold Crc.decOff; rw [hd, if_neg he]; exact ⟨rfl, rfl, rfl⟩
    have hq : ((p : Int) == (k : Int)) = false := by simp; omega
    have hq2 : decide (ls.take n = ls.take n) = true := by simp
    clear hd he
    go_enter Tryd.func11, Tryd.ntmps11
    go_wp2_with fail
    refine (encode_val _ _ _ hv hu ht HE.out.1 HE.out.2).mono ?_
    rintro e w1 ⟨rfl, hb1⟩
    have hv1 := hv.below hb1
    have ht1 := ht.below hb1
    go_wp2_with fail
    refine (whole_any _ _ _ _ hv1 hu HK.out HW.out).mono ?_
    rintro e w' ⟨rfl, rfl⟩
    go_wp2_with fail
    refine (decode_val _ _ hp ht1 HD.out.1 HD.out.2.1 HD.out.2.2).mono ?_
    rintro e w2 ⟨vd, nd, rfl, hrd, hb2⟩
    have hb12 : Below w.heap.size w w2 := hb1.trans (hb2.mono hb1.size)
    have sd := Strs.of_row hrd
    have sv := (hv.below hb12).take n hnl
    have ht2 := ht.below hb12
    go_wp2_with fail
    refine (same_any _ _ _ _ _ sd sv).mono ?_
    rintro e w7 ⟨rfl, n7, rfl⟩
    have hb7 : Below w.heap.size w (w2.drewN n7) := Base.below_drewN hb12 n7
    go_wp2_with (go_at_call 17; refine (awake_any _ (ht2.drewN n7)).mono ?_; rintro e w8 ⟨rfl, hb8⟩)
    go_ret
    exact ⟨rfl, hb7.trans (hb8.mono hb7.size)⟩
theorem walk (v : Value) (ls : List (List UInt8)) (cut : Int) (w : World) (hv : Strs w v ls) (ht : TabHeld w) (hu : Crc.total ls ≤ 1048576) :
    Calls Tryd.prog 11 #[v, .int .i64 cut] w fun e w' => e = .returned (.bool true) ∧ Below w.heap.size w w' := by
  by_cases hf : Crc.fits ls
  · by_cases hc : cut < 0 ∨ ((Crc.encL ls).length : Int) < cut
    · exact walk_out v ls cut w hv ht hu hf hc
    · obtain ⟨k, rfl⟩ := Int.eq_ofNat_of_zero_le (show 0 ≤ cut by omega)
      exact walk_in v ls k w hv ht hu hf (by omega)
  · exact walk_awake v ls cut w hv ht hu hf
end Go.Proofs.YtfgfphodpghgbaaDoor.FrameCutsWalk
