/- The walk of FrameFollows: it returns true for all lines of together at most 2^20 bytes and every string of at most 2^20 bytes; the table must hold its sixteen numbers. -/
import Derived.Test.YtfgfphodpghgbaaDoorFrameReturnsWalk
import Derived.Test.YtfgfphodpghgbaaDoorOwnAll
namespace Go.Proofs.YtfgfphodpghgbaaDoor.FrameFollowsWalk
open Go.RowKit FrameCrc FrameRec FrameNext FrameRefNext FrameAwake FrameDec FrameEnc FrameReturnsWalk Strs

theorem decode_bytes (s : ByteArray) (w : World) (hs : s.size ≤ 1073741824) (ht : TabHeld w) {ls : List (List UInt8)} {off er : Int} (h1 : (Crc.decode s.data.toList).1 = ls) (h2 : Crc.decOff s.data.toList = off) (h3 : (Crc.decode s.data.toList).2.2 = er) :
    Calls Tryd.prog 22 #[.string s] w fun e w' => ∃ v n, e = .returned (.tuple #[v, .int .i64 off, .int .i64 er]) ∧ Own.Row w' w.heap.size 9 1 v n (cellsOf ls) ∧ Below w.heap.size w w' :=
  decode_val s.data.toList w (by simpa using hs) ht h1 h2 h3
theorem src {w : World} {a : Option Addr} {n c : Nat} {ls : List (List UInt8)} (h : Strs w (.slice a n c) ls) : n = ls.length ∧ (cellsOf ls ≠ [] → ∃ b off, a = some ⟨b, off, none⟩ ∧ ∀ j u, (cellsOf ls)[j]? = some u → w.cell? ⟨b, off + j, none⟩ = some u) := by
  obtain ⟨a', c', e, hm, hc⟩ := h
  injection e with e1 e2 e3
  subst e1 e2 e3
  refine ⟨rfl, fun hne => ?_⟩
  obtain ⟨b, off, e, hcell⟩ := hc (by intro e; subst e; simp [cellsOf] at hne)
  refine ⟨b, off, e, fun j u hj => ?_⟩
  simp only [cellsOf, List.getElem?_map, Option.map_eq_some_iff] at hj
  obtain ⟨x, hx, rfl⟩ := hj
  exact hcell j x hx
theorem one (ls : List (List UInt8)) : ∀ u ∈ cellsOf ls, u.oneCell' = true := by
  intro u hu
  obtain ⟨b, _, rfl⟩ := List.mem_map.1 hu
  rfl

set_option maxHeartbeats 1000000 in
theorem walk_long (v : Value) (ls : List (List UInt8)) (s : ByteArray) (w : World) (hv : Strs w v ls) (ht : TabHeld w) (hu : Crc.total ls ≤ 1048576) (hf : ¬ Crc.fits ls) :
    Calls Tryd.prog 12 #[v, .string s] w fun e w' => e = .returned (.bool true) ∧ Below w.heap.size w w' := by
  have HE := Lib.hid (enc_long ls hf)
  clear hf
  go_enter Tryd.func12, Tryd.ntmps12
  go_wp2_with fail
  refine (encode_val _ _ _ hv hu ht HE.out.1 HE.out.2).mono ?_
  rintro e w1 ⟨rfl, hb1⟩
  have ht1 := ht.below hb1
  go_wp2_with (go_at_call 17; refine (awake_any _ ht1).mono ?_; rintro e w3 ⟨rfl, hb3⟩)
  go_ret
  exact ⟨rfl, hb1.trans (hb3.mono hb1.size)⟩

theorem dec_count (l : List UInt8) : (Crc.decode l).1.length * 6 ≤ l.length := by
  have key : ∀ f r, (Crc.dec f r).1.length * 6 ≤ r.length := by
    intro f
    induction f with
    | zero => intro r; simp [Crc.dec]
    | succ f ih =>
      intro r
      by_cases hr : r = []
      · subst hr; rw [Crc.dec_nil]; simp
      · by_cases he : (Crc.nextR r).2.2 = 0
        · rw [Crc.dec_good f r hr he]
          have h1 := ih (r.drop (Crc.nextR r).2.1)
          have h2 := Crc.nextR_size r he
          simp only [List.length_cons, List.length_drop] at h1 ⊢
          omega
        · rw [Crc.dec_bad f r hr he]; simp
  exact key _ _

theorem dec_off (l : List UInt8) : (Crc.decode l).2.1 ≤ l.length := by
  have key : ∀ f r, (Crc.dec f r).2.1 ≤ r.length := by
    intro f
    induction f with
    | zero => intro r; simp [Crc.dec]
    | succ f ih =>
      intro r
      by_cases hr : r = []
      · subst hr; rw [Crc.dec_nil]; simp
      · by_cases he : (Crc.nextR r).2.2 = 0
        · rw [Crc.dec_good f r hr he]
          have h1 := ih (r.drop (Crc.nextR r).2.1)
          have h2 := Crc.nextR_size r he
          simp only [List.length_drop] at h1 ⊢
          omega
        · rw [Crc.dec_bad f r hr he]; simp
  exact key _ _

set_option maxRecDepth 100000 in
set_option maxHeartbeats 2000000 in
theorem walk_fits (v : Value) (ls : List (List UInt8)) (s : ByteArray) (w : World) (hv : Strs w v ls) (ht : TabHeld w) (hu : Crc.total ls ≤ 1048576) (hs : s.size ≤ 1048576) (hf : Crc.fits ls) :
    Calls Tryd.prog 12 #[v, .string s] w fun e w' => e = .returned (.bool true) ∧ Below w.heap.size w w' := by
  obtain ⟨i0, hi, hz0, hz1, hz2⟩ := info_parts str_info
  have HE := Lib.hid (Crc.enc_good ls hf)
  have hd := Crc.decode_enc ls s.data.toList hf
  have hel := Crc.encL_length_le ls
  have hsl : s.data.toList.length = s.size := by simp
  have hcnt := dec_count s.data.toList
  have hlt := Crc.length_le_total ls
  have hsum : (⟨(Crc.encL ls).toArray⟩ : ByteArray) ++ s = ⟨(Crc.encL ls ++ s.data.toList).toArray⟩ := by
    apply ByteArray.ext; simp
  have hez : (⟨(Crc.encL ls).toArray⟩ : ByteArray).size ≤ 8388608 := by rw [Base.str_size]; omega
  have hp : (Crc.encL ls ++ s.data.toList).length ≤ 1073741824 := by rw [List.length_append]; omega
  have HZ := Lib.hid (Base.str_size (Crc.encL ls))
  generalize hD : Crc.decode s.data.toList = D at *
  obtain ⟨ds, off, er⟩ := D
  simp only at hd hcnt
  have hm1 : 0 + ls.length ≤ maxLen := by unfold maxLen; omega
  have hm2 : (0 + ls.length) * 16 ≤ 140737488355328 := by omega
  have hm3 : 0 + ls.length + ds.length ≤ maxLen := by unfold maxLen; omega
  have hm4 : (0 + ls.length + ds.length) * 16 ≤ 140737488355328 := by omega
  by_cases he : er = 0
  · subst he
    have HD : Hid ((Crc.decode s.data.toList).1 = ds ∧ Crc.decOff s.data.toList = 0 ∧ (Crc.decode s.data.toList).2.2 = 0) := by
      unfold Crc.decOff; rw [hD]; exact ⟨rfl, rfl, rfl⟩
    have HM : Hid ((Crc.decode (Crc.encL ls ++ s.data.toList)).1 = ls ++ ds ∧ Crc.decOff (Crc.encL ls ++ s.data.toList) = 0 ∧ (Crc.decode (Crc.encL ls ++ s.data.toList)).2.2 = 0) := by
      unfold Crc.decOff; rw [hd]; exact ⟨rfl, rfl, rfl⟩
    have hq : decide (ls ++ ds = ls ++ ds) = true := by simp
    clear hd hD hf hel hsl hcnt
    go_enter Tryd.func12, Tryd.ntmps12
    go_wp2_with fail
    refine (encode_val _ _ _ hv hu ht HE.out.1 HE.out.2).mono ?_
    rintro e w1 ⟨rfl, hb1⟩
    have ht1 := ht.below hb1
    go_wp2_with fail
    refine (decode_bytes _ _ (by omega) ht1 HD.out.1 HD.out.2.1 HD.out.2.2).mono ?_
    rintro e w2 ⟨vd, nd, rfl, hrd, hb2⟩
    have hb12 : Below w.heap.size w w2 := hb1.trans (hb2.mono hb1.size)
    have ht2 := ht.below hb12
    go_wp2_with fail
    refine (decode_val _ _ hp ht2 HM.out.1 HM.out.2.1 HM.out.2.2).mono ?_
    rintro e w3 ⟨vm, nm, rfl, hrm, hb3⟩
    have hb13 : Below w.heap.size w w3 := hb12.trans (hb3.mono hb12.size)
    have ht3 := ht.below hb13
    have sd := Strs.of_row (hrd.below hb3)
    have sm := Strs.of_row hrm
    have sv := hv.below hb13
    obtain ⟨ad, nd', cd, rfl⟩ : ∃ a n c, vd = .slice a n c := ⟨_, _, _, sd.choose_spec.choose_spec.1⟩
    obtain ⟨av, nv', cv, rfl⟩ : ∃ a n c, v = .slice a n c := ⟨_, _, _, sv.choose_spec.choose_spec.1⟩
    obtain ⟨rfl, c1⟩ := src sv
    have h0 := Own.Row.nil w3 w3.heap.size 9 1
    go_wp2_with (first
      | (at_builtin
         refine Own.wpList_append_all _ rfl _ _ 37 rfl w3.heap.size 9 i0 (.string ⟨#[]⟩) 16 Tryd.underlying37 hi hz0 hz1 hz2 rfl (.slice none 0 0) 0 [] rfl h0 av _ cv (cellsOf ls) rfl (cellsOf_length ls) c1 (one ls) hm1 hm2 (Nat.le_refl _) ?_
         intro v4 w4 hr4 hg4 hb4
         have sd4 := sd.below hb4
         obtain ⟨hdl, c2⟩ := src sd4
         have hm5 : 0 + ls.length + nd' ≤ maxLen := by rw [hdl]; exact hm3
         have hm6 : (0 + ls.length + nd') * 16 ≤ 140737488355328 := by rw [hdl]; exact hm4
         have hcl : (cellsOf ds).length = nd' := by rw [cellsOf_length, hdl]
         have HCL := Lib.hid hcl
         clear hcl
         have HDL := Lib.hid hdl
         clear hdl)
      | (at_builtin
         refine Own.wpList_append_all _ rfl _ _ 37 rfl w3.heap.size 9 i0 (.string ⟨#[]⟩) 16 Tryd.underlying37 hi hz0 hz1 hz2 rfl v4 (0 + ls.length) ([] ++ cellsOf ls) rfl hr4 ad nd' cd (cellsOf ds) rfl HCL.out c2 (one ds) hm5 hm6 hb4.size ?_
         intro v5 w5 hr5 hg5 hb5
         have hb35 : Below w3.heap.size w3 w5 := hb4.trans hb5
         have sm5 := sm.below hb35
         have hall : Own.Row w5 w3.heap.size 9 1 v5 (0 + ls.length + nd') (cellsOf (ls ++ ds)) := by
           rw [cellsOf_append]; exact hr5
         have sa5 := Strs.of_row hall)
      | (go_at_call 24
         refine (same_any _ _ _ _ _ sm5 sa5).mono ?_
         rintro e w7 ⟨rfl, n7, rfl⟩
         have ht7 := (ht3.below hb35).drewN n7
         have hb7 : Below w.heap.size w (w5.drewN n7) := Base.below_drewN (hb13.trans (hb35.mono hb13.size)) n7)
      | (go_at_call 17
         refine (awake_any _ ht7).mono ?_
         rintro e w8 ⟨rfl, hb8⟩))
    go_ret
    exact ⟨rfl, hb7.trans (hb8.mono hb7.size)⟩
  · have HD : Hid ((Crc.decode s.data.toList).1 = ds ∧ Crc.decOff s.data.toList = (off : Int) ∧ (Crc.decode s.data.toList).2.2 = er) := by
      unfold Crc.decOff; rw [hD, if_neg he]; exact ⟨rfl, rfl, rfl⟩
    have HM : Hid ((Crc.decode (Crc.encL ls ++ s.data.toList)).1 = ls ++ ds ∧ Crc.decOff (Crc.encL ls ++ s.data.toList) = (off : Int) + (((⟨(Crc.encL ls).toArray⟩ : ByteArray).size : Nat) : Int) ∧ (Crc.decode (Crc.encL ls ++ s.data.toList)).2.2 = er) := by
      unfold Crc.decOff; rw [hd, if_neg he, HZ.out]; exact ⟨rfl, by simp only; omega, rfl⟩
    have hoff : off ≤ 1048576 := by
      have := dec_off s.data.toList
      rw [hD] at this
      simp only at this
      omega
    have hne : (er != 0) = true := by simp [he]
    obtain ⟨z, hzz⟩ : ∃ z, (⟨(Crc.encL ls).toArray⟩ : ByteArray).size = z := ⟨_, rfl⟩
    rw [hzz] at HM hez
    have qz : ((off : Int) + (z : Int) == (off : Int) + (z : Int)) = true := by simp
    have qe : (er == er) = true := by simp
    have hq : decide (ls ++ ds = ls ++ ds) = true := by simp
    clear hd hD hf hel hsl hcnt he
    go_enter Tryd.func12, Tryd.ntmps12
    go_wp2_with fail
    refine (encode_val _ _ _ hv hu ht HE.out.1 HE.out.2).mono ?_
    rintro e w1 ⟨rfl, hb1⟩
    have ht1 := ht.below hb1
    go_wp2_with fail
    refine (decode_bytes _ _ (by omega) ht1 HD.out.1 HD.out.2.1 HD.out.2.2).mono ?_
    rintro e w2 ⟨vd, nd, rfl, hrd, hb2⟩
    have hb12 : Below w.heap.size w w2 := hb1.trans (hb2.mono hb1.size)
    have ht2 := ht.below hb12
    go_wp2_with fail
    refine (decode_val _ _ hp ht2 HM.out.1 HM.out.2.1 HM.out.2.2).mono ?_
    rintro e w3 ⟨vm, nm, rfl, hrm, hb3⟩
    have hb13 : Below w.heap.size w w3 := hb12.trans (hb3.mono hb12.size)
    have ht3 := ht.below hb13
    have sd := Strs.of_row (hrd.below hb3)
    have sm := Strs.of_row hrm
    have sv := hv.below hb13
    obtain ⟨ad, nd', cd, rfl⟩ : ∃ a n c, vd = .slice a n c := ⟨_, _, _, sd.choose_spec.choose_spec.1⟩
    obtain ⟨av, nv', cv, rfl⟩ : ∃ a n c, v = .slice a n c := ⟨_, _, _, sv.choose_spec.choose_spec.1⟩
    obtain ⟨rfl, c1⟩ := src sv
    have h0 := Own.Row.nil w3 w3.heap.size 9 1
    go_wp2_with (first
      | (at_builtin
         refine Own.wpList_append_all _ rfl _ _ 37 rfl w3.heap.size 9 i0 (.string ⟨#[]⟩) 16 Tryd.underlying37 hi hz0 hz1 hz2 rfl (.slice none 0 0) 0 [] rfl h0 av _ cv (cellsOf ls) rfl (cellsOf_length ls) c1 (one ls) hm1 hm2 (Nat.le_refl _) ?_
         intro v4 w4 hr4 hg4 hb4
         have sd4 := sd.below hb4
         obtain ⟨hdl, c2⟩ := src sd4
         have hm5 : 0 + ls.length + nd' ≤ maxLen := by rw [hdl]; exact hm3
         have hm6 : (0 + ls.length + nd') * 16 ≤ 140737488355328 := by rw [hdl]; exact hm4
         have hcl : (cellsOf ds).length = nd' := by rw [cellsOf_length, hdl]
         have HCL := Lib.hid hcl
         clear hcl
         have HDL := Lib.hid hdl
         clear hdl)
      | (at_builtin
         refine Own.wpList_append_all _ rfl _ _ 37 rfl w3.heap.size 9 i0 (.string ⟨#[]⟩) 16 Tryd.underlying37 hi hz0 hz1 hz2 rfl v4 (0 + ls.length) ([] ++ cellsOf ls) rfl hr4 ad nd' cd (cellsOf ds) rfl HCL.out c2 (one ds) hm5 hm6 hb4.size ?_
         intro v5 w5 hr5 hg5 hb5
         have hb35 : Below w3.heap.size w3 w5 := hb4.trans hb5
         have sm5 := sm.below hb35
         have hall : Own.Row w5 w3.heap.size 9 1 v5 (0 + ls.length + nd') (cellsOf (ls ++ ds)) := by
           rw [cellsOf_append]; exact hr5
         have sa5 := Strs.of_row hall)
      | (go_at_call 24
         refine (same_any _ _ _ _ _ sm5 sa5).mono ?_
         rintro e w7 ⟨rfl, n7, rfl⟩
         have ht7 := (ht3.below hb35).drewN n7
         have hb7 : Below w.heap.size w (w5.drewN n7) := Base.below_drewN (hb13.trans (hb35.mono hb13.size)) n7)
      | (go_at_call 17
         refine (awake_any _ ht7).mono ?_
         rintro e w8 ⟨rfl, hb8⟩))
    go_ret
    exact ⟨rfl, hb7.trans (hb8.mono hb7.size)⟩
theorem walk (v : Value) (ls : List (List UInt8)) (s : ByteArray) (w : World) (hv : Strs w v ls) (_hs : s.size ≤ maxLen) (ht : TabHeld w) (hu : Crc.total ls ≤ 1048576) (hu2 : s.size ≤ 1048576) :
    Calls Tryd.prog 12 #[v, .string s] w fun e w' => e = .returned (.bool true) ∧ Below w.heap.size w w' := by
  by_cases hf : Crc.fits ls
  · exact walk_fits v ls s w hv ht hu hu2 hf
  · exact walk_long v ls s w hv ht hu hf
end Go.Proofs.YtfgfphodpghgbaaDoor.FrameFollowsWalk
