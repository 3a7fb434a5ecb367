/- Comparing two lines by a specification: what the reference's Compare returns. Strings of at most 65536 bytes. -/
import Derived.Test.YtkekpiillbpciaaGreatDoorR14
import Derived.Test.YtkekpiillbpciaaGreatDoorR10
namespace Go.Proofs.YtkekpiillbpciaaGreatDoor.KRefCompare
open Go Go.RowKit KeyMath ScanMath KeyVals Strs KLoc KRefCmp KNum KSpec KKey KCompare
set_option maxRecDepth 100000
theorem parts_on (v : Value) (x y : Str) (n : Nat) (w : World) (hv : Wts w v) (hx : x.length ≤ 65536) (hy : y.length ≤ 65536) (hn : n ≤ 31) :
    Calls Tryz.prog 69 #[.agg #[posix, v, .string ⟨lowT.toArray⟩, .string ⟨upT.toArray⟩, .slice none 0 0, .slice none 0 0], .string ⟨x.toArray⟩, .string ⟨y.toArray⟩, .int .i64 (n : Int)] w fun e w' => e = .returned (.int .i64 (parts (n : Int) x y)) ∧ Below w.heap.size w w' := KParts.refParts_any v ⟨x.toArray⟩ ⟨y.toArray⟩ n w hv hx hy hn
set_option maxHeartbeats 16000000 in
theorem refCmp_any (sv v : Value) (p : SortSpec) (s t : ByteArray) (w : World) (hv : Wts w v) (hk : Keys w sv p.keys) (h0 : check p = 0) (hs : s.size ≤ 65536) (ht : t.size ≤ 65536) :
    Calls Tryz.prog 49 #[.agg #[posix, v, .string ⟨lowT.toArray⟩, .string ⟨upT.toArray⟩, .slice none 0 0, .slice none 0 0], specVal sv p, .string s, .string t] w fun e w' => e = .returned (.int .i64 (compare p s.data.toList t.data.toList)) ∧ Below w.heap.size w w' := by
  have HV := Lib.hid hv
  have HK := Lib.hid hk
  have HVA := Lib.hid (fun W (hW : Keys W sv p.keys) => KCheck.refValid_any sv p W hW h0)
  obtain ⟨hs0, hs1, hf0, hf1, hok⟩ := fl_range h0
  have HOK := Lib.hid hok
  clear hok
  obtain ⟨n, hn⟩ : ∃ n : Nat, p.fl = (n : Int) := ⟨p.fl.toNat, by omega⟩
  have hn31 : n ≤ 31 := by omega
  have hsl : s.data.toList.length ≤ 65536 := by rw [len_eq]; exact hs
  have htl : t.data.toList.length ≤ 65536 := by rw [len_eq]; exact ht
  have HP0 := Lib.hid (fun W (hW : Wts W v) => KParts.refParts_any v s t n W hW hs ht hn31)
  have HCN := Lib.hid (fun h => @compare_none p s.data.toList t.data.toList h)
  have HCK := Lib.hid (fun h => @compare_keys p s.data.toList t.data.toList h)
  have HBH := Lib.hid (fun q k C => @byKeys_hit p s.data.toList t.data.toList p.keys q k C)
  have HBM := Lib.hid (fun q k C => @byKeys_miss p s.data.toList t.data.toList p.keys q k C)
  have HBE := Lib.hid (byKeys_end p s.data.toList t.data.toList p.keys)
  obtain ⟨g, c, rfl, hgc, hcell⟩ := hv
  obtain ⟨a, kc, rfl, ⟨hkc, hkm⟩, hfit, hkcell⟩ := hk
  have HFIT := Lib.hid hfit
  have HKC := Lib.hid hkcell
  clear hcell h0 hf0 hf1 hfit hkcell
  obtain ⟨ks, sep, fl, uq, st⟩ := p
  simp only at hn
  subst hn
  unfold posix specVal at *
  simp only at *
  have hkm' : kc ≤ 9223372036854775807 := hkm
  generalize compare (⟨ks, sep, (n : Int), uq, st⟩ : SortSpec) s.data.toList t.data.toList = R at *
  have hb1 := ((Below.refl w.heap.size w).alloc (Nat.le_refl _) (.cells #[.string ⟨#[112, 111, 115, 105, 120]⟩, .slice (some ⟨g, 0, none⟩) 256 c, .string ⟨lowT.toArray⟩, .string ⟨upT.toArray⟩, .slice none 0 0, .slice none 0 0] 37)).alloc (by simp) (.cells #[.slice a ks.length kc, .int .i64 sep, .int .i64 (n : Int), .bool uq, .bool st] 24)
  have HB1 := Lib.hid hb1
  clear hb1
  rcases Nat.eq_zero_or_pos ks.length with hk0 | hk0
  · obtain rfl : ks = [] := List.eq_nil_of_length_eq_zero hk0
    have HR : Hid (R = parts (n : Int) s.data.toList t.data.toList) := HCN.out rfl
    simp only [List.length_nil] at HB1 HVA HK
    clear hk0
    go_enter Tryz.func49, Tryz.ntmps49
    go_wp2_with (first
      | (go_at_call 66
         (with_reducible refine (HVA.out _ (HK.out.below HB1.out)).mono ?_)
         rintro e w2 ⟨rfl, hb2⟩
         have HB2 := Lib.hid (below_step HB1.out hb2)
         have hbx : Box w2 w.heap.size (.slice (some ⟨g, 0, none⟩) 256 c) := (hb2.block _ (by simp <;> omega)).trans ((Below.heap_alloc _ _ _ (by simp)).trans (heap_alloc_new w _))
         have hsx : SBox w2 (w.heap.size + 1) (.slice a 0 kc) ⟨[], sep, (n : Int), uq, st⟩ := (hb2.block _ (by simp)).trans (alloc2 w _ _)
         obtain ⟨-, c1, c2, c3, c4, c5⟩ := hbx.cells
         have c0 := hbx.cells'
         obtain ⟨d0, d1, d2, d3, d4⟩ := hsx.cells
         obtain ⟨e0, e1, e2, e3, e4, ef⟩ := hsx.same
         have hl := hsx.lt
         replace hbx := Lib.hid hbx
         replace hsx := Lib.hid hsx)
      | (go_at_call 69
         (with_reducible refine (HP0.out _ (HV.out.below HB2.out)).mono ?_)
         rintro e w3 ⟨rfl, hb3⟩))
    go_ret
    exact ⟨by rw [HR.out]; rfl, below_step HB2.out hb3⟩
  · have hkne : ks ≠ [] := by intro e; subst e; simp at hk0
    have HR : Hid (R = byKeys ⟨ks, sep, (n : Int), uq, st⟩ s.data.toList t.data.toList ks) := HCK.out hkne
    obtain ⟨kb, koff, rfl, hkc0⟩ := HKC.out hkne
    have HKQ := Lib.hid hkc0
    have hkz : ((ks.length : Int) == 0) = false := by simpa using hkne
    clear hkc0 hkne
    go_enter Tryz.func49, Tryz.ntmps49
    go_wp2_with (go_at_call 66
                 (with_reducible refine (HVA.out _ (HK.out.below HB1.out)).mono ?_)
                 rintro e w2 ⟨rfl, hb2⟩
                 have HB2 := Lib.hid (below_step HB1.out hb2)
                 have hbx : Box w2 w.heap.size (.slice (some ⟨g, 0, none⟩) 256 c) := (hb2.block _ (by simp <;> omega)).trans ((Below.heap_alloc _ _ _ (by simp)).trans (heap_alloc_new w _))
                 have hsx : SBox w2 (w.heap.size + 1) (.slice (some ⟨kb, koff, none⟩) ks.length kc) ⟨ks, sep, (n : Int), uq, st⟩ := (hb2.block _ (by simp)).trans (alloc2 w _ _)
                 obtain ⟨d0, d1, d2, d3, d4⟩ := hsx.cells
                 obtain ⟨e0, e1, e2, e3, e4, ef⟩ := hsx.same
                 have hl := hsx.lt
                 replace hbx := Lib.hid hbx
                 replace hsx := Lib.hid hsx)
    go_loopw [9] (fun i wr => ∃ q : Nat, q ≤ ks.length ∧ i = .int .i64 q ∧ Below w.heap.size w wr ∧ Box wr w.heap.size (.slice (some ⟨g, 0, none⟩) 256 c) ∧ SBox wr (w.heap.size + 1) (.slice (some ⟨kb, koff, none⟩) ks.length kc) ⟨ks, sep, (n : Int), uq, st⟩ ∧ Hid (R = byKeys ⟨ks, sep, (n : Int), uq, st⟩ s.data.toList t.data.toList (ks.drop q))) (fun i _ => ks.length - (intOf i).toNat)
    case atStart => exact ⟨0, Nat.zero_le _, rfl, HB2.out, hbx.out, hsx.out, HR.out⟩
    case round =>
      obtain ⟨q, hq, rfl, hbw, hbx, hsx, HE⟩ := hrel
      clear d0 d1 d2 d3 d4 e0 e1 e2 e3 e4 ef hl
      have HBX := Lib.hid hbx
      have HSX := Lib.hid hsx
      have HBW := Lib.hid hbw
      obtain ⟨d0, d1, d2, d3, d4⟩ := hsx.cells
      have hl := hsx.lt
      have hws := hbw.size
      clear hbx hsx
      by_cases hlt : q < ks.length
      · obtain ⟨k, hkq⟩ : ∃ k, ks[q]? = some k := ⟨_, List.getElem?_eq_getElem hlt⟩
        have hc := HKQ.out q k hkq
        have k0 := up hbw (hc 0 _ rfl)
        have k1 := up hbw (hc 1 _ rfl)
        have k2 := up hbw (hc 2 _ rfl)
        have k3 := up hbw (hc 3 _ rfl)
        have k4 := up hbw (hc 4 _ rfl)
        rw [Nat.mul_comm] at k0 k1 k2 k3 k4
        rw [Nat.add_zero] at k0
        have hql : (q : Int) < (ks.length : Int) := by omega
        have hkm : k ∈ ks := List.mem_of_getElem? hkq
        have hkok := HOK.out k hkm
        have hkfit := HFIT.out k hkm
        obtain ⟨-, -, -, -, -, hkf0, hkf1⟩ := KField.ok_parts hkok
        obtain ⟨ff, fc, tf, tc, kf⟩ := k
        simp only at k0 k1 k2 k3 k4 hkf0 hkf1
        obtain ⟨kn, rfl⟩ : ∃ kn : Nat, kf = (kn : Int) := ⟨kf.toNat, by omega⟩
        have hkn : kn ≤ 31 := by omega
        have HES := Lib.hid (fun W => KRefField.refExtract_any s ⟨ff, fc, tf, tc, (kn : Int)⟩ sep W hs hkok hkfit hs0 hs1)
        have HET := Lib.hid (fun W => KRefField.refExtract_any t ⟨ff, fc, tf, tc, (kn : Int)⟩ sep W ht hkok hkfit hs0 hs1)
        have hels := extract_length s.data.toList ⟨ff, fc, tf, tc, (kn : Int)⟩ sep
        have helt := extract_length t.data.toList ⟨ff, fc, tf, tc, (kn : Int)⟩ sep
        have HH := Lib.hid (fun C => HBH.out q _ C hkq)
        have HM := Lib.hid (fun C => HBM.out q _ C hkq)
        have hKB0 : KBox (wr.alloc (.cells #[.int .i64 ff, .int .i64 fc, .int .i64 tf, .int .i64 tc, .int .i64 (kn : Int)] 81)) wr.heap.size ⟨ff, fc, tf, tc, (kn : Int)⟩ := heap_alloc_new wr _
        have HKB0 := Lib.hid hKB0
        have HBA := Lib.hid (hbw.alloc hbw.size (.cells #[.int .i64 ff, .int .i64 fc, .int .i64 tf, .int .i64 tc, .int .i64 (kn : Int)] 81))
        have HBXA : Hid (Box (wr.alloc (.cells #[.int .i64 ff, .int .i64 fc, .int .i64 tf, .int .i64 tc, .int .i64 (kn : Int)] 81)) w.heap.size _) := HBX.out.keep (Below.heap_alloc _ _ _ HBX.out.lt)
        have HSXA : Hid (SBox (wr.alloc (.cells #[.int .i64 ff, .int .i64 fc, .int .i64 tf, .int .i64 tc, .int .i64 (kn : Int)] 81)) (w.heap.size + 1) _ _) := HSX.out.keep (Below.heap_alloc _ _ _ HSX.out.lt)
        have HKO := Lib.hid hkok
        have HKF := Lib.hid hkfit
        clear hKB0 hc hkok hkfit hkm hkq
        by_cases hz : kn = 0
        · subst hz
          simp only [Int.cast_ofNat_Int] at *
          have hz : True := trivial
          have hxs : extract s.data.toList ⟨ff, fc, tf, tc, (n : Int)⟩ sep = extract s.data.toList ⟨ff, fc, tf, tc, 0⟩ sep := rfl
          have hxt : extract t.data.toList ⟨ff, fc, tf, tc, (n : Int)⟩ sep = extract t.data.toList ⟨ff, fc, tf, tc, 0⟩ sep := rfl
          clear HES HET
          have HES := Lib.hid (fun W => KRefField.refExtract_any s ⟨ff, fc, tf, tc, (n : Int)⟩ sep W hs (ok_flag HKO.out (by omega) (by omega)) (fits_flag HKF.out (by omega) (by omega)) hs0 hs1)
          have HET := Lib.hid (fun W => KRefField.refExtract_any t ⟨ff, fc, tf, tc, (n : Int)⟩ sep W ht (ok_flag HKO.out (by omega) (by omega)) (fits_flag HKF.out (by omega) (by omega)) hs0 hs1)
          simp only [hxs] at HES
          simp only [hxt] at HET
          clear hxs hxt
          have hff : (wr.alloc (.cells #[.int .i64 ff, .int .i64 fc, .int .i64 tf, .int .i64 tc, .int .i64 0] 81)).frozen? ⟨wr.heap.size, 4, none⟩ = false := KBox.frozen HKB0.out
          have HBXA2 : Hid (Box (wr.alloc (.cells #[.int .i64 ff, .int .i64 fc, .int .i64 tf, .int .i64 tc, .int .i64 (n : Int)] 81)) w.heap.size _) := HBX.out.keep (Below.heap_alloc _ _ _ HBX.out.lt)
          have HSXA2 : Hid (SBox (wr.alloc (.cells #[.int .i64 ff, .int .i64 fc, .int .i64 tf, .int .i64 tc, .int .i64 (n : Int)] 81)) (w.heap.size + 1) _ _) := HSX.out.keep (Below.heap_alloc _ _ _ HSX.out.lt)
          have HKB02 : Hid (KBox (wr.alloc (.cells #[.int .i64 ff, .int .i64 fc, .int .i64 tf, .int .i64 tc, .int .i64 (n : Int)] 81)) wr.heap.size ⟨ff, fc, tf, tc, (n : Int)⟩) := heap_alloc_new wr _
          have HBA2 : Hid (Below w.heap.size w (wr.alloc (.cells #[.int .i64 ff, .int .i64 fc, .int .i64 tf, .int .i64 tc, .int .i64 (n : Int)] 81))) := hbw.alloc hbw.size _
          have HPA := Lib.hid (fun W (hW : Wts W (.slice (some ⟨g, 0, none⟩) 256 c)) => parts_on _ (extract s.data.toList ⟨ff, fc, tf, tc, 0⟩ sep) (extract t.data.toList ⟨ff, fc, tf, tc, 0⟩ sep) n W hW (by omega) (by omega) hn31)
          obtain ⟨C, hC⟩ : ∃ C, parts (n : Int) (extract s.data.toList ⟨ff, fc, tf, tc, 0⟩ sep) (extract t.data.toList ⟨ff, fc, tf, tc, 0⟩ sep) = C := ⟨_, rfl⟩
          simp only [hC] at HPA
          have hfo : flagsOf ⟨ks, sep, (n : Int), uq, st⟩ ⟨ff, fc, tf, tc, 0⟩ = (n : Int) := by unfold flagsOf; simp [hz]
          have HH' := Lib.hid (HH.out C (by rw [hfo]; exact hC))
          have HM' := Lib.hid (HM.out C (by rw [hfo]; exact hC))
          unfold posix at HPA
          clear hC hfo HH HM
          go_wp2
          refine enter (by kernel_rfl) (by kernel_rfl) ?_
          intro X F hN hBF hF
          have hX : ∀ x, Box (F x) w.heap.size (.slice (some ⟨g, 0, none⟩) 256 c) := fun x => HBXA2.out.keep ((hBF x).block _ HBXA2.out.lt)
          have hS : ∀ x, SBox (F x) (w.heap.size + 1) (.slice (some ⟨kb, koff, none⟩) ks.length kc) ⟨ks, sep, (n : Int), uq, st⟩ := fun x => HSXA2.out.keep ((hBF x).block _ HSXA2.out.lt)
          have hKB : ∀ x, KBox (F x) wr.heap.size ⟨ff, fc, tf, tc, (n : Int)⟩ := fun x => HKB02.out.keep ((hBF x).block _ HKB02.out.lt)
          have hBel : ∀ x, Below w.heap.size w (F x) := fun x => HBA2.out.trans ((hBF x).mono HBA2.out.size)
          have hV : ∀ x, Wts (F x) (.slice (some ⟨g, 0, none⟩) 256 c) := fun x => HV.out.below (hBel x)
          have c0 : ∀ x, (F x).cell? ⟨w.heap.size, 0, none⟩ = some (.string ⟨#[112, 111, 115, 105, 120]⟩) := fun x => (hX x).cells'
          have c1 : ∀ x, (F x).cell? ⟨w.heap.size, 1, none⟩ = some (.slice (some ⟨g, 0, none⟩) 256 c) := fun x => (hX x).cells.2.1
          have c2 : ∀ x, (F x).cell? ⟨w.heap.size, 2, none⟩ = some (.string ⟨lowT.toArray⟩) := fun x => (hX x).cells.2.2.1
          have c3 : ∀ x, (F x).cell? ⟨w.heap.size, 3, none⟩ = some (.string ⟨upT.toArray⟩) := fun x => (hX x).cells.2.2.2.1
          have c4 : ∀ x, (F x).cell? ⟨w.heap.size, 4, none⟩ = some (.slice none 0 0) := fun x => (hX x).cells.2.2.2.2.1
          have c5 : ∀ x, (F x).cell? ⟨w.heap.size, 5, none⟩ = some (.slice none 0 0) := fun x => (hX x).cells.2.2.2.2.2
          have s1 : ∀ x, (F x).cell? ⟨w.heap.size + 1, 1, none⟩ = some (.int .i64 sep) := fun x => (hS x).cells.2.1
          have q0 : ∀ x, (F x).cell? ⟨wr.heap.size, 0, none⟩ = some (.int .i64 ff) := fun x => (hKB x).cells.1
          have q1 : ∀ x, (F x).cell? ⟨wr.heap.size, 1, none⟩ = some (.int .i64 fc) := fun x => (hKB x).cells.2.1
          have q2 : ∀ x, (F x).cell? ⟨wr.heap.size, 2, none⟩ = some (.int .i64 tf) := fun x => (hKB x).cells.2.2.1
          have q3 : ∀ x, (F x).cell? ⟨wr.heap.size, 3, none⟩ = some (.int .i64 tc) := fun x => (hKB x).cells.2.2.2.1
          have q4 : ∀ x, (F x).cell? ⟨wr.heap.size, 4, none⟩ = some (.int .i64 (n : Int)) := fun x => (hKB x).cells.2.2.2.2
          have HVF := Lib.hid hV
          have HXF := Lib.hid hX
          have HSF := Lib.hid hS
          have HBF := Lib.hid hBel
          clear hX hS hKB hV hBel hBF
          repeat go_big_quiet_step (first
            | (go_at_call_of 70 (Value.string s)
               (with_reducible refine (HES.out _).mono ?_)
               rintro e w1 ⟨rfl, hb1⟩
               exact ⟨rfl, hF _ _ hb1⟩)
            | (go_at_call_of 70 (Value.string t)
               (with_reducible refine (HET.out _).mono ?_)
               rintro e w1 ⟨rfl, hb1⟩
               exact ⟨rfl, hF _ _ hb1⟩)
            | (go_at_call 69
               (with_reducible refine (HPA.out _ (HVF.out _)).mono ?_)
               rintro e w1 ⟨rfl, hb1⟩
               exact ⟨rfl, hF _ _ hb1⟩))
          refine wpQuiet_nil ?_
          rintro _ ⟨x, rfl⟩
          by_cases hCz : C = 0
          · have HN : Hid (R = byKeys ⟨ks, sep, (n : Int), uq, st⟩ s.data.toList t.data.toList (ks.drop (q + 1))) := HE.out.trans (HM'.out hCz)
            clear HE HM' HH'
            subst hCz
            go_wp2
            go_roundw
            case rel => exact ⟨q + 1, by omega, by go_num, HBF.out x, HXF.out x, HSF.out x, HN⟩
            case measure => simp [intOf]; omega
          · have HN : Hid (R = C) := HE.out.trans (HH'.out hCz)
            have hCz' : (C == 0) = false := by simpa using hCz
            clear HE HM' HH' hCz
            go_wp2
            go_ret
            exact ⟨by rw [HN.out]; rfl, HBF.out x⟩
        · have hzz : ((kn : Int) == 0) = false := by simpa using hz
          have HPA := Lib.hid (fun W (hW : Wts W (.slice (some ⟨g, 0, none⟩) 256 c)) => parts_on _ (extract s.data.toList ⟨ff, fc, tf, tc, (kn : Int)⟩ sep) (extract t.data.toList ⟨ff, fc, tf, tc, (kn : Int)⟩ sep) kn W hW (by omega) (by omega) hkn)
          obtain ⟨C, hC⟩ : ∃ C, parts (kn : Int) (extract s.data.toList ⟨ff, fc, tf, tc, (kn : Int)⟩ sep) (extract t.data.toList ⟨ff, fc, tf, tc, (kn : Int)⟩ sep) = C := ⟨_, rfl⟩
          simp only [hC] at HPA
          have hfo : flagsOf ⟨ks, sep, (n : Int), uq, st⟩ ⟨ff, fc, tf, tc, (kn : Int)⟩ = (kn : Int) := by unfold flagsOf; simp [hz]
          have HH' := Lib.hid (HH.out C (by rw [hfo]; exact hC))
          have HM' := Lib.hid (HM.out C (by rw [hfo]; exact hC))
          unfold posix at HPA
          clear hC hfo HH HM
          go_wp2
          refine enter (by kernel_rfl) (by kernel_rfl) ?_
          intro X F hN hBF hF
          have hX : ∀ x, Box (F x) w.heap.size (.slice (some ⟨g, 0, none⟩) 256 c) := fun x => HBXA.out.keep ((hBF x).block _ HBXA.out.lt)
          have hS : ∀ x, SBox (F x) (w.heap.size + 1) (.slice (some ⟨kb, koff, none⟩) ks.length kc) ⟨ks, sep, (n : Int), uq, st⟩ := fun x => HSXA.out.keep ((hBF x).block _ HSXA.out.lt)
          have hKB : ∀ x, KBox (F x) wr.heap.size ⟨ff, fc, tf, tc, (kn : Int)⟩ := fun x => HKB0.out.keep ((hBF x).block _ HKB0.out.lt)
          have hBel : ∀ x, Below w.heap.size w (F x) := fun x => HBA.out.trans ((hBF x).mono HBA.out.size)
          have hV : ∀ x, Wts (F x) (.slice (some ⟨g, 0, none⟩) 256 c) := fun x => HV.out.below (hBel x)
          have c0 : ∀ x, (F x).cell? ⟨w.heap.size, 0, none⟩ = some (.string ⟨#[112, 111, 115, 105, 120]⟩) := fun x => (hX x).cells'
          have c1 : ∀ x, (F x).cell? ⟨w.heap.size, 1, none⟩ = some (.slice (some ⟨g, 0, none⟩) 256 c) := fun x => (hX x).cells.2.1
          have c2 : ∀ x, (F x).cell? ⟨w.heap.size, 2, none⟩ = some (.string ⟨lowT.toArray⟩) := fun x => (hX x).cells.2.2.1
          have c3 : ∀ x, (F x).cell? ⟨w.heap.size, 3, none⟩ = some (.string ⟨upT.toArray⟩) := fun x => (hX x).cells.2.2.2.1
          have c4 : ∀ x, (F x).cell? ⟨w.heap.size, 4, none⟩ = some (.slice none 0 0) := fun x => (hX x).cells.2.2.2.2.1
          have c5 : ∀ x, (F x).cell? ⟨w.heap.size, 5, none⟩ = some (.slice none 0 0) := fun x => (hX x).cells.2.2.2.2.2
          have s1 : ∀ x, (F x).cell? ⟨w.heap.size + 1, 1, none⟩ = some (.int .i64 sep) := fun x => (hS x).cells.2.1
          have q0 : ∀ x, (F x).cell? ⟨wr.heap.size, 0, none⟩ = some (.int .i64 ff) := fun x => (hKB x).cells.1
          have q1 : ∀ x, (F x).cell? ⟨wr.heap.size, 1, none⟩ = some (.int .i64 fc) := fun x => (hKB x).cells.2.1
          have q2 : ∀ x, (F x).cell? ⟨wr.heap.size, 2, none⟩ = some (.int .i64 tf) := fun x => (hKB x).cells.2.2.1
          have q3 : ∀ x, (F x).cell? ⟨wr.heap.size, 3, none⟩ = some (.int .i64 tc) := fun x => (hKB x).cells.2.2.2.1
          have q4 : ∀ x, (F x).cell? ⟨wr.heap.size, 4, none⟩ = some (.int .i64 (kn : Int)) := fun x => (hKB x).cells.2.2.2.2
          have HVF := Lib.hid hV
          have HXF := Lib.hid hX
          have HSF := Lib.hid hS
          have HBF := Lib.hid hBel
          clear hX hS hKB hV hBel hBF
          repeat go_big_quiet_step (first
            | (go_at_call_of 70 (Value.string s)
               (with_reducible refine (HES.out _).mono ?_)
               rintro e w1 ⟨rfl, hb1⟩
               exact ⟨rfl, hF _ _ hb1⟩)
            | (go_at_call_of 70 (Value.string t)
               (with_reducible refine (HET.out _).mono ?_)
               rintro e w1 ⟨rfl, hb1⟩
               exact ⟨rfl, hF _ _ hb1⟩)
            | (go_at_call 69
               (with_reducible refine (HPA.out _ (HVF.out _)).mono ?_)
               rintro e w1 ⟨rfl, hb1⟩
               exact ⟨rfl, hF _ _ hb1⟩))
          refine wpQuiet_nil ?_
          rintro _ ⟨x, rfl⟩
          by_cases hCz : C = 0
          · have HN : Hid (R = byKeys ⟨ks, sep, (n : Int), uq, st⟩ s.data.toList t.data.toList (ks.drop (q + 1))) := HE.out.trans (HM'.out hCz)
            clear HE HM' HH'
            subst hCz
            go_wp2
            go_roundw
            case rel => exact ⟨q + 1, by omega, by go_num, HBF.out x, HXF.out x, HSF.out x, HN⟩
            case measure => simp [intOf]; omega
          · have HN : Hid (R = C) := HE.out.trans (HH'.out hCz)
            have hCz' : (C == 0) = false := by simpa using hCz
            clear HE HM' HH' hCz
            go_wp2
            go_ret
            exact ⟨by rw [HN.out]; rfl, HBF.out x⟩
      · obtain rfl : q = ks.length := by omega
        have HE0 : Hid (R = 0) := by show _ = _; rw [HE.out]; exact HBE.out
        clear HE
        go_wp2
        go_ret
        exact ⟨by rw [HE0.out]; rfl, hbw⟩
end Go.Proofs.YtkekpiillbpciaaGreatDoor.KRefCompare
