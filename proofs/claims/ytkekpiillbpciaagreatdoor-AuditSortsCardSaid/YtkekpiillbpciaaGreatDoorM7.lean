/- KNum3: merged into one text: lemmas for the walk of the law. No condition. -/
import Derived.Test.YtkekpiillbpciaaGreatDoorM6
import Derived.Test.YtkekpiillbpciaaGreatDoorM2
import Derived.Laws.Strings3
import Derived.Laws.Closers25b
/- The number at the beginning of a string: what the program's Prefix returns. No condition but that the string is one. -/
namespace Go.Proofs.YtkekpiillbpciaaGreatDoor.KNum
open Go Go.RowKit KeyMath ScanMath NumMath Strs
set_option maxRecDepth 100000

/-- what both Prefixes leave -/
def PPost (l : List UInt8) (w : World) (e : Ending) (w' : World) : Prop := ∃ z : Int, e = .returned (.tuple #[.int .i64 (num l), .int .i64 z]) ∧ w = w'
theorem at_nat (s : ByteArray) (k : Nat) (h : k < s.size) (c : UInt8) : s.data.toList[k]? = some c ↔ s[k].toNat = c.toNat := by
  rw [at_some s h, Option.some.injEq, UInt8.toNat_inj]
/-- behind the blanks: a sign, or none -/
theorem sign_cases (s : ByteArray) {a : Nat} (ha : spanEnd isBlank s.data.toList 0 = a) (hs : a ≤ s.size) :
    ∃ b neg, num s.data.toList = sg neg (restv s.data.toList b) ∧ b ≤ s.size ∧
      ((∃ h : a < s.size, s[a].toNat = 45 ∧ b = a + 1 ∧ neg = true) ∨ (∃ h : a < s.size, s[a].toNat = 43 ∧ b = a + 1 ∧ neg = false) ∨ (∃ h : a < s.size, s[a].toNat ≠ 45 ∧ s[a].toNat ≠ 43 ∧ b = a ∧ neg = false) ∨ (a = s.size ∧ b = a ∧ neg = false)) := by
  have hn := num_rest s.data.toList
  rw [ha] at hn
  by_cases h : a < s.size
  · by_cases h1 : s[a].toNat = 45
    · have e1 := (at_nat s a h 45).2 h1
      rw [if_pos (.inl e1), e1] at hn
      exact ⟨a + 1, true, by simpa using hn, by omega, .inl ⟨h, h1, rfl, rfl⟩⟩
    · have e1 : s.data.toList[a]? ≠ some 45 := fun e => h1 ((at_nat s a h 45).1 e)
      by_cases h2 : s[a].toNat = 43
      · have e2 := (at_nat s a h 43).2 h2
        rw [if_pos (.inr e2), decide_eq_false e1] at hn
        exact ⟨a + 1, false, hn, by omega, .inr (.inl ⟨h, h2, rfl, rfl⟩)⟩
      · have e2 : s.data.toList[a]? ≠ some 43 := fun e => h2 ((at_nat s a h 43).1 e)
        rw [if_neg (by rintro (h | h); exact e1 h; exact e2 h), decide_eq_false e1] at hn
        exact ⟨a, false, hn, hs, .inr (.inr (.inl ⟨h, h1, h2, rfl, rfl⟩))⟩
  · have e := at_none s h
    rw [e, if_neg (by rintro (h | h) <;> cases h), decide_eq_false (by intro h; cases h)] at hn
    exact ⟨a, false, hn, hs, .inr (.inr (.inr ⟨by omega, rfl, rfl⟩))⟩
theorem cut_list (s : ByteArray) (a b : Nat) : (s.extract a b).data.toList = (s.data.toList.take b).drop a := by
  rw [Lib.extract_data, List.drop_take]
theorem from_list (s : ByteArray) (a : Nat) : (s.extract a s.size).data.toList = s.data.toList.drop a := by
  rw [cut_list, List.take_of_length_le (by rw [len_eq]; exact Nat.le_refl _)]
theorem not_empty {x : ByteArray} (h : 0 < x.size) : ¬ x.toList = [] := fun e => by
  rw [toList_nil_iff_emptyBytes] at e
  rw [e] at h
  simp at h
theorem not_empty' {x : ByteArray} (h : 0 < x.size) : x.toList.isEmpty = false := by
  cases hb : x.toList.isEmpty with
  | false => rfl
  | true => exact absurd (List.isEmpty_iff.1 hb) (not_empty h)
set_option maxHeartbeats 8000000 in
theorem prefix_any (s : ByteArray) (w : World) (hs : s.size ≤ maxLen) :
    Calls Tryz.prog 90 #[.string s] w (PPost s.data.toList w) := by
  have hs' : s.size ≤ 9223372036854775807 := hs
  clear hs
  go_enter Tryz.func90, Tryz.ntmps90
  go_wp2
  go_loop [4] (fun i => ∃ k : Nat, k ≤ s.size ∧ i = .int .i64 k ∧ Hid (spanEnd isBlank s.data.toList k = spanEnd isBlank s.data.toList 0)) (fun i => s.size - (intOf i).toNat)
  case atStart => exact ⟨0, Nat.zero_le _, rfl, rfl⟩
  case round =>
    obtain ⟨a, hk, rfl, H⟩ := hrel
    have hend : (¬ ∃ h : a < s.size, isBlank s[a] = true) → Hid (spanEnd isBlank s.data.toList 0 = a) := fun hn => by
      show _ = _
      rw [← H.out]
      refine span_stop fun x hx => ?_
      by_cases hlt : a < s.size
      · rw [at_some s hlt] at hx
        cases hx
        cases hb : isBlank s[a] with
        | false => rfl
        | true => exact absurd ⟨hlt, hb⟩ hn
      · rw [at_none s hlt] at hx; cases hx
    by_cases hb : ∃ h : a < s.size, isBlank s[a] = true
    · obtain ⟨hlt, hb⟩ := hb
      have H2 : Hid (spanEnd isBlank s.data.toList (a + 1) = spanEnd isBlank s.data.toList 0) := by show _ = _; rw [← H.out, span_go (at_some s hlt) hb]
      rcases (blank_iff _).1 hb with hc | hc
      · have q1 : ((s[a].toNat : Int) == 32) = true := by simp; omega
        clear hb hc hend
        go_wp2
        go_round
        case rel => exact ⟨a + 1, by omega, by go_num, H2⟩
        case measure => simp [intOf]; omega
      · have q1 : ((s[a].toNat : Int) == 32) = false := by simp; omega
        have q2 : ((s[a].toNat : Int) == 9) = true := by simp; omega
        clear hb hc hend
        go_wp2
        go_round
        case rel => exact ⟨a + 1, by omega, by go_num, H2⟩
        case measure => simp [intOf]; omega
    · have HA := hend hb
      obtain ⟨b, neg, hnum, hbs, hcase⟩ := sign_cases s HA.out hk
      have HN := Lib.hid hnum
      have hnb : ∀ h : a < s.size, ((s[a].toNat : Int) == 32) = false ∧ ((s[a].toNat : Int) == 9) = false := fun h => by
        have : ¬ (s[a].toNat = 32 ∨ s[a].toNat = 9) := fun hh => hb ⟨h, (blank_iff _).2 hh⟩
        constructor <;> simp <;> omega
      clear hnum hb hend H HA
      -- what lies behind the sign
      have hss : s.data.toList.length = s.size := len_eq s
      obtain ⟨e, he⟩ : ∃ e, spanEnd digit s.data.toList b = e := ⟨_, rfl⟩
      have hes : e ≤ s.size := by rw [← he, ← hss]; exact span_le (by omega)
      have hbe : b ≤ e := by rw [← he]; exact span_ge
      obtain ⟨n, hn⟩ : ∃ n, b + n = e := ⟨e - b, by omega⟩
      have hsl1 : ∀ W, (Instr.slice 9 (.string s) (some (.int .i64 (b : Int))) none none).run Tryz.prog W = .ok (.string (s.extract b s.size)) W := fun W => run_slice_string_l W _ s Tryz.underlying9 .i64 _ (by omega) (by omega)
      have hsl2 : ∀ W, (Instr.slice 9 (.string s) (some (.int .i64 (b : Int))) (some (.int .i64 (e : Int))) none).run Tryz.prog W = .ok (.string (s.extract b e)) W := fun W => run_slice_string W _ s .i64 .i64 _ _ Tryz.underlying9 (by omega) (by omega) (by omega)
      have hx1 : spanEnd digit (s.extract b s.size).data.toList 0 = n := by
        rw [from_list]
        have := span_drop (p := digit) (l := s.data.toList) (i := b) (j := 0)
        rw [Nat.add_zero, he] at this
        omega
      have HD1 : Hid (∀ W, Calls Tryz.prog 135 #[.string (s.extract b s.size)] W fun e w' => e = .returned (.int .i64 (n : Nat)) ∧ W = w') := fun W => by
        have := digits_any (s.extract b s.size) W (by rw [← len_eq, from_list, List.length_drop, hss]; exact Nat.le_trans (Nat.sub_le _ _) hs')
        rw [hx1] at this
        exact this
      have hx2 : (s.extract b e).data.toList = (s.data.toList.take e).drop b := cut_list s b e
      have hdg : Digs (s.extract b e).data.toList := by rw [hx2, ← he]; exact span_digs _ _
      have hx2s : (s.extract b e).size ≤ maxLen := by rw [← len_eq, hx2, List.length_drop, List.length_take]; show _ ≤ 9223372036854775807; omega
      have HE := Lib.hid he
      have HX2 := Lib.hid hx2
      have HG2 := Lib.hid hdg
      have HS2 := Lib.hid hx2s
      have hne : (b : Int) + (n : Int) = (e : Int) := by omega
      clear he hx1 hx2 hdg hx2s
      generalize s.extract b s.size = x1 at *
      generalize s.extract b e = x2 at *
      have HNB := Lib.hid hnb
      clear hnb
      rcases hcase with ⟨hlt, hc, hba, rfl⟩ | ⟨hlt, hc, hba, rfl⟩ | ⟨hlt, hc, hc2, hba, rfl⟩ | ⟨hae, hba, rfl⟩
      case inl =>
        obtain ⟨q1, q2⟩ := HNB.out hlt
        have q3 : ((s[a].toNat : Int) == 45) = true := by simp; omega
        have hab : (a : Int) + 1 = (b : Int) := by omega
        clear hc hba
        by_cases hp : ∃ h : e < s.size, s[e].toNat = 46
        · obtain ⟨hel, hp⟩ := hp
          have HP := Lib.hid ((at_nat s e hel 46).2 hp)
          have r1 : ((s[e].toNat : Int) == 46) = true := by simp; omega
          obtain ⟨k, hk2⟩ : ∃ k, spanEnd digit s.data.toList (e + 1) = k := ⟨_, rfl⟩
          have hks : k ≤ s.size := by rw [← hk2, ← hss]; exact span_le (by omega)
          have hke : e + 1 ≤ k := by rw [← hk2]; exact span_ge
          obtain ⟨m, hm⟩ : ∃ m, e + 1 + m = k := ⟨k - (e + 1), by omega⟩
          have hsl3 : ∀ W, (Instr.slice 9 (.string s) (some (.int .i64 ((e : Int) + 1))) none none).run Tryz.prog W = .ok (.string (s.extract (e + 1) s.size)) W := fun W => run_slice_string_l W _ s Tryz.underlying9 .i64 _ (by omega) (by omega)
          have hsl4 : ∀ W, (Instr.slice 9 (.string s) (some (.int .i64 ((e : Int) + 1))) (some (.int .i64 ((e : Int) + 1 + (m : Int)))) none).run Tryz.prog W = .ok (.string (s.extract (e + 1) k)) W := fun W => by
            rw [show ((e : Int) + 1 + (m : Int)) = ((k : Nat) : Int) from by omega, show ((e : Int) + 1) = ((e + 1 : Nat) : Int) from by omega]
            exact run_slice_string W _ s .i64 .i64 _ _ Tryz.underlying9 (by omega) (by omega) (by omega)
          have hx3 : spanEnd digit (s.extract (e + 1) s.size).data.toList 0 = m := by
            rw [from_list]
            have := span_drop (p := digit) (l := s.data.toList) (i := e + 1) (j := 0)
            rw [Nat.add_zero, hk2] at this
            omega
          have HD3 : Hid (∀ W, Calls Tryz.prog 135 #[.string (s.extract (e + 1) s.size)] W fun e w' => e = .returned (.int .i64 (m : Nat)) ∧ W = w') := fun W => by
            have := digits_any (s.extract (e + 1) s.size) W (by rw [← len_eq, from_list, List.length_drop, hss]; exact Nat.le_trans (Nat.sub_le _ _) hs')
            rw [hx3] at this
            exact this
          have hx4 : (s.extract (e + 1) k).data.toList = (s.data.toList.take k).drop (e + 1) := cut_list s (e + 1) k
          have hdg : Digs (s.extract (e + 1) k).data.toList := by rw [hx4, ← hk2]; exact span_digs _ _
          have hx4z : (s.extract (e + 1) k).size = m := by rw [← len_eq, hx4, List.length_drop, List.length_take, hss]; omega
          have hx4s : (s.extract (e + 1) k).size ≤ maxLen := by rw [hx4z]; show _ ≤ 9223372036854775807; omega
          have HK := Lib.hid hk2
          have HX4 := Lib.hid hx4
          have HG4 := Lib.hid hdg
          have HS4 := Lib.hid hx4s
          have HZ4 := Lib.hid hx4z
          have HX2b := HX2
          clear hp hk2 hx3 hx4 hdg hx4s hx4z
          generalize s.extract (e + 1) s.size = x3 at *
          generalize s.extract (e + 1) k = x4 at *
          by_cases hnm : n = 0 ∧ m = 0
          · obtain ⟨rfl, rfl⟩ := hnm
            obtain rfl : e = b := by omega
            obtain rfl : k = e + 1 := by omega
            have HR : Hid (restv s.data.toList e = 0) := restv_bare HE.out HP.out HK.out
            have HD1' : Hid (∀ W, Calls Tryz.prog 135 #[.string x1] W fun e w' => e = .returned (.int .i64 0) ∧ W = w') := HD1.out
            have HD3' : Hid (∀ W, Calls Tryz.prog 135 #[.string x3] W fun e w' => e = .returned (.int .i64 0) ∧ W = w') := HD3.out
            clear hne hn hm hbe hke
            simp only [Nat.add_zero, Int.natCast_zero, Int.add_zero] at hsl4
            go_wp2_with (first
              | (go_at_call 135; (with_reducible refine (HD1'.out _).mono ?_); rintro e w2 ⟨rfl, rfl⟩)
              | (go_at_call 135; (with_reducible refine (HD3'.out _).mono ?_); rintro e w2 ⟨rfl, rfl⟩))
            all_goals (go_ret2; exact ⟨_, by rw [HN.out, HR.out]; rfl, rfl⟩)
          · have HRV := Lib.hid (restv_yes HE.out HP.out HK.out)
            have HVC := Lib.hid (fun W => value_any x2 x4 W HS2.out HS4.out HG2.out HG4.out)
            rw [HX2.out, HX4.out] at HVC
            have hvl := valv_le ((s.data.toList.take e).drop b) ((s.data.toList.take k).drop (e + 1))
            generalize valv ((s.data.toList.take e).drop b) ((s.data.toList.take k).drop (e + 1)) = v at *
            obtain ⟨d, hd⟩ : ∃ d, min 10000000000000 v = d := ⟨_, rfl⟩
            have HR : Hid (restv s.data.toList b = d) := by show _ = _; rw [HRV.out, hd]
            have hem : ((e : Int) + (1 + (m : Int))) = (k : Int) := by omega
            by_cases hv : v < 10000000000000
            · obtain rfl : v = d := by omega
              have hv' : (v : Int) < 10000000000000 := by omega
              clear hd hv HRV hvl
              rcases Nat.eq_zero_or_pos n with rfl | hn0
              · obtain rfl : e = b := by omega
                have hm0 : 0 < m := by omega
                have hm1 : (0 : Int) < (m : Int) := by omega
                have hx4e := not_empty (x := x4) (by rw [HZ4.out]; exact hm0)
                have hx4f := not_empty' (x := x4) (by rw [HZ4.out]; exact hm0)
                have HD1' : Hid (∀ W, Calls Tryz.prog 135 #[.string x1] W fun e w' => e = .returned (.int .i64 0) ∧ W = w') := HD1.out
                clear hne hn hm hbe hke hnm
                go_wp2_with (first
                  | (go_at_call 135; (with_reducible refine (HD1'.out _).mono ?_); rintro e w2 ⟨rfl, rfl⟩)
                  | (go_at_call 135; (with_reducible refine (HD3.out _).mono ?_); rintro e w2 ⟨rfl, rfl⟩)
                  | (go_at_call 136; (with_reducible refine (HVC.out _).mono ?_); rintro e w2 ⟨rfl, rfl⟩))
                all_goals (go_ret2; exact ⟨_, by rw [HN.out, HR.out]; rfl, rfl⟩)
              · have hn1 : (0 : Int) < (n : Int) := by omega
                have hn2 : ((n : Int) == 0) = false := by simp; omega
                clear hn hm hbe hke hnm
                go_wp2_with (first
                  | (go_at_call 135; (with_reducible refine (HD1.out _).mono ?_); rintro e w2 ⟨rfl, rfl⟩)
                  | (go_at_call 135; (with_reducible refine (HD3.out _).mono ?_); rintro e w2 ⟨rfl, rfl⟩)
                  | (go_at_call 136; (with_reducible refine (HVC.out _).mono ?_); rintro e w2 ⟨rfl, rfl⟩))
                all_goals (go_ret2; exact ⟨_, by rw [HN.out, HR.out]; rfl, rfl⟩)
            · obtain rfl : d = 10000000000000 := by omega
              have hv' : (10000000000000 : Int) ≤ (v : Int) := by omega
              clear hd hv HRV hvl
              rcases Nat.eq_zero_or_pos n with rfl | hn0
              · obtain rfl : e = b := by omega
                have hm0 : 0 < m := by omega
                have hm1 : (0 : Int) < (m : Int) := by omega
                have hx4e := not_empty (x := x4) (by rw [HZ4.out]; exact hm0)
                have hx4f := not_empty' (x := x4) (by rw [HZ4.out]; exact hm0)
                have HD1' : Hid (∀ W, Calls Tryz.prog 135 #[.string x1] W fun e w' => e = .returned (.int .i64 0) ∧ W = w') := HD1.out
                clear hne hn hm hbe hke hnm
                go_wp2_with (first
                  | (go_at_call 135; (with_reducible refine (HD1'.out _).mono ?_); rintro e w2 ⟨rfl, rfl⟩)
                  | (go_at_call 135; (with_reducible refine (HD3.out _).mono ?_); rintro e w2 ⟨rfl, rfl⟩)
                  | (go_at_call 136; (with_reducible refine (HVC.out _).mono ?_); rintro e w2 ⟨rfl, rfl⟩))
                all_goals (go_ret2; exact ⟨_, by rw [HN.out, HR.out]; rfl, rfl⟩)
              · have hn1 : (0 : Int) < (n : Int) := by omega
                have hn2 : ((n : Int) == 0) = false := by simp; omega
                clear hn hm hbe hke hnm
                go_wp2_with (first
                  | (go_at_call 135; (with_reducible refine (HD1.out _).mono ?_); rintro e w2 ⟨rfl, rfl⟩)
                  | (go_at_call 135; (with_reducible refine (HD3.out _).mono ?_); rintro e w2 ⟨rfl, rfl⟩)
                  | (go_at_call 136; (with_reducible refine (HVC.out _).mono ?_); rintro e w2 ⟨rfl, rfl⟩))
                all_goals (go_ret2; exact ⟨_, by rw [HN.out, HR.out]; rfl, rfl⟩)
        · have HP : Hid (s.data.toList[e]? ≠ some 46) := by
            show _ ≠ _
            intro hh
            have hel : e < s.size := by rw [← hss]; exact (List.getElem?_eq_some_iff.1 hh).1
            exact hp ⟨hel, (at_nat s e hel 46).1 hh⟩
          have hr1 : ∀ h : e < s.size, ((s[e].toNat : Int) == 46) = false := fun h => by
            have : s[e].toNat ≠ 46 := fun hh => hp ⟨h, hh⟩
            simp; omega
          have HR1 := Lib.hid hr1
          clear hp hr1
          have HVC := Lib.hid (fun W => value_any x2 ⟨#[]⟩ W HS2.out (by show 0 ≤ maxLen; exact Nat.zero_le _) HG2.out (by intro b hb; cases hb))
          rw [HX2.out] at HVC
          have HRV := Lib.hid (restv_no HE.out HP.out)
          have hvl := valv_le ((s.data.toList.take e).drop b) []
          have e0 : (⟨#[]⟩ : ByteArray).data.toList = [] := rfl
          rw [e0] at HVC
          clear e0
          generalize valv ((s.data.toList.take e).drop b) [] = v at *
          obtain ⟨d, hd⟩ : ∃ d, min 10000000000000 v = d := ⟨_, rfl⟩
          have HR : Hid (restv s.data.toList b = d) := by show _ = _; rw [HRV.out, hd]
          rcases Nat.eq_zero_or_pos n with rfl | hn0
          · obtain rfl : e = b := by omega
            have HR0 : Hid (restv s.data.toList e = 0) := restv_zero HE.out HP.out
            have HD1' : Hid (∀ W, Calls Tryz.prog 135 #[.string x1] W fun e w' => e = .returned (.int .i64 0) ∧ W = w') := HD1.out
            clear hne hn hbe hd hvl
            by_cases hel : e < s.size
            · have r1 := HR1.out hel
              go_wp2_with (go_at_call 135; (with_reducible refine (HD1'.out _).mono ?_); rintro e w2 ⟨rfl, rfl⟩)
              all_goals (go_ret2; exact ⟨_, by rw [HN.out, HR0.out]; rfl, rfl⟩)
            · have r1 : ¬ (e : Int) < (s.size : Int) := by omega
              go_wp2_with (go_at_call 135; (with_reducible refine (HD1'.out _).mono ?_); rintro e w2 ⟨rfl, rfl⟩)
              all_goals (go_ret2; exact ⟨_, by rw [HN.out, HR0.out]; rfl, rfl⟩)
          · have hn2 : ((n : Int) == 0) = false := by simp; omega
            by_cases hv : v < 10000000000000
            · obtain rfl : v = d := by omega
              have hv' : (v : Int) < 10000000000000 := by omega
              clear hd hv HRV hvl hn hbe
              by_cases hel : e < s.size
              · have r1 := HR1.out hel
                go_wp2_with (first
                  | (go_at_call 135; (with_reducible refine (HD1.out _).mono ?_); rintro e w2 ⟨rfl, rfl⟩)
                  | (go_at_call 136; (with_reducible refine (HVC.out _).mono ?_); rintro e w2 ⟨rfl, rfl⟩))
                all_goals (go_ret2; exact ⟨_, by rw [HN.out, HR.out]; rfl, rfl⟩)
              · have r1 : ¬ (e : Int) < (s.size : Int) := by omega
                go_wp2_with (first
                  | (go_at_call 135; (with_reducible refine (HD1.out _).mono ?_); rintro e w2 ⟨rfl, rfl⟩)
                  | (go_at_call 136; (with_reducible refine (HVC.out _).mono ?_); rintro e w2 ⟨rfl, rfl⟩))
                all_goals (go_ret2; exact ⟨_, by rw [HN.out, HR.out]; rfl, rfl⟩)
            · obtain rfl : d = 10000000000000 := by omega
              have hv' : (10000000000000 : Int) ≤ (v : Int) := by omega
              clear hd hv HRV hvl hn hbe
              by_cases hel : e < s.size
              · have r1 := HR1.out hel
                go_wp2_with (first
                  | (go_at_call 135; (with_reducible refine (HD1.out _).mono ?_); rintro e w2 ⟨rfl, rfl⟩)
                  | (go_at_call 136; (with_reducible refine (HVC.out _).mono ?_); rintro e w2 ⟨rfl, rfl⟩))
                all_goals (go_ret2; exact ⟨_, by rw [HN.out, HR.out]; rfl, rfl⟩)
              · have r1 : ¬ (e : Int) < (s.size : Int) := by omega
                go_wp2_with (first
                  | (go_at_call 135; (with_reducible refine (HD1.out _).mono ?_); rintro e w2 ⟨rfl, rfl⟩)
                  | (go_at_call 136; (with_reducible refine (HVC.out _).mono ?_); rintro e w2 ⟨rfl, rfl⟩))
                all_goals (go_ret2; exact ⟨_, by rw [HN.out, HR.out]; rfl, rfl⟩)
      case inr.inl =>
        obtain ⟨q1, q2⟩ := HNB.out hlt
        have q3 : ((s[a].toNat : Int) == 45) = false := by simp; omega
        have q4 : ((s[a].toNat : Int) == 43) = true := by simp; omega
        have hab : (a : Int) + 1 = (b : Int) := by omega
        clear hc hba
        by_cases hp : ∃ h : e < s.size, s[e].toNat = 46
        · obtain ⟨hel, hp⟩ := hp
          have HP := Lib.hid ((at_nat s e hel 46).2 hp)
          have r1 : ((s[e].toNat : Int) == 46) = true := by simp; omega
          obtain ⟨k, hk2⟩ : ∃ k, spanEnd digit s.data.toList (e + 1) = k := ⟨_, rfl⟩
          have hks : k ≤ s.size := by rw [← hk2, ← hss]; exact span_le (by omega)
          have hke : e + 1 ≤ k := by rw [← hk2]; exact span_ge
          obtain ⟨m, hm⟩ : ∃ m, e + 1 + m = k := ⟨k - (e + 1), by omega⟩
          have hsl3 : ∀ W, (Instr.slice 9 (.string s) (some (.int .i64 ((e : Int) + 1))) none none).run Tryz.prog W = .ok (.string (s.extract (e + 1) s.size)) W := fun W => run_slice_string_l W _ s Tryz.underlying9 .i64 _ (by omega) (by omega)
          have hsl4 : ∀ W, (Instr.slice 9 (.string s) (some (.int .i64 ((e : Int) + 1))) (some (.int .i64 ((e : Int) + 1 + (m : Int)))) none).run Tryz.prog W = .ok (.string (s.extract (e + 1) k)) W := fun W => by
            rw [show ((e : Int) + 1 + (m : Int)) = ((k : Nat) : Int) from by omega, show ((e : Int) + 1) = ((e + 1 : Nat) : Int) from by omega]
            exact run_slice_string W _ s .i64 .i64 _ _ Tryz.underlying9 (by omega) (by omega) (by omega)
          have hx3 : spanEnd digit (s.extract (e + 1) s.size).data.toList 0 = m := by
            rw [from_list]
            have := span_drop (p := digit) (l := s.data.toList) (i := e + 1) (j := 0)
            rw [Nat.add_zero, hk2] at this
            omega
          have HD3 : Hid (∀ W, Calls Tryz.prog 135 #[.string (s.extract (e + 1) s.size)] W fun e w' => e = .returned (.int .i64 (m : Nat)) ∧ W = w') := fun W => by
            have := digits_any (s.extract (e + 1) s.size) W (by rw [← len_eq, from_list, List.length_drop, hss]; exact Nat.le_trans (Nat.sub_le _ _) hs')
            rw [hx3] at this
            exact this
          have hx4 : (s.extract (e + 1) k).data.toList = (s.data.toList.take k).drop (e + 1) := cut_list s (e + 1) k
          have hdg : Digs (s.extract (e + 1) k).data.toList := by rw [hx4, ← hk2]; exact span_digs _ _
          have hx4z : (s.extract (e + 1) k).size = m := by rw [← len_eq, hx4, List.length_drop, List.length_take, hss]; omega
          have hx4s : (s.extract (e + 1) k).size ≤ maxLen := by rw [hx4z]; show _ ≤ 9223372036854775807; omega
          have HK := Lib.hid hk2
          have HX4 := Lib.hid hx4
          have HG4 := Lib.hid hdg
          have HS4 := Lib.hid hx4s
          have HZ4 := Lib.hid hx4z
          have HX2b := HX2
          clear hp hk2 hx3 hx4 hdg hx4s hx4z
          generalize s.extract (e + 1) s.size = x3 at *
          generalize s.extract (e + 1) k = x4 at *
          by_cases hnm : n = 0 ∧ m = 0
          · obtain ⟨rfl, rfl⟩ := hnm
            obtain rfl : e = b := by omega
            obtain rfl : k = e + 1 := by omega
            have HR : Hid (restv s.data.toList e = 0) := restv_bare HE.out HP.out HK.out
            have HD1' : Hid (∀ W, Calls Tryz.prog 135 #[.string x1] W fun e w' => e = .returned (.int .i64 0) ∧ W = w') := HD1.out
            have HD3' : Hid (∀ W, Calls Tryz.prog 135 #[.string x3] W fun e w' => e = .returned (.int .i64 0) ∧ W = w') := HD3.out
            clear hne hn hm hbe hke
            simp only [Nat.add_zero, Int.natCast_zero, Int.add_zero] at hsl4
            go_wp2_with (first
              | (go_at_call 135; (with_reducible refine (HD1'.out _).mono ?_); rintro e w2 ⟨rfl, rfl⟩)
              | (go_at_call 135; (with_reducible refine (HD3'.out _).mono ?_); rintro e w2 ⟨rfl, rfl⟩))
            all_goals (go_ret2; exact ⟨_, by rw [HN.out, HR.out]; rfl, rfl⟩)
          · have HRV := Lib.hid (restv_yes HE.out HP.out HK.out)
            have HVC := Lib.hid (fun W => value_any x2 x4 W HS2.out HS4.out HG2.out HG4.out)
            rw [HX2.out, HX4.out] at HVC
            have hvl := valv_le ((s.data.toList.take e).drop b) ((s.data.toList.take k).drop (e + 1))
            generalize valv ((s.data.toList.take e).drop b) ((s.data.toList.take k).drop (e + 1)) = v at *
            obtain ⟨d, hd⟩ : ∃ d, min 10000000000000 v = d := ⟨_, rfl⟩
            have HR : Hid (restv s.data.toList b = d) := by show _ = _; rw [HRV.out, hd]
            have hem : ((e : Int) + (1 + (m : Int))) = (k : Int) := by omega
            by_cases hv : v < 10000000000000
            · obtain rfl : v = d := by omega
              have hv' : (v : Int) < 10000000000000 := by omega
              clear hd hv HRV hvl
              rcases Nat.eq_zero_or_pos n with rfl | hn0
              · obtain rfl : e = b := by omega
                have hm0 : 0 < m := by omega
                have hm1 : (0 : Int) < (m : Int) := by omega
                have hx4e := not_empty (x := x4) (by rw [HZ4.out]; exact hm0)
                have hx4f := not_empty' (x := x4) (by rw [HZ4.out]; exact hm0)
                have HD1' : Hid (∀ W, Calls Tryz.prog 135 #[.string x1] W fun e w' => e = .returned (.int .i64 0) ∧ W = w') := HD1.out
                clear hne hn hm hbe hke hnm
                go_wp2_with (first
                  | (go_at_call 135; (with_reducible refine (HD1'.out _).mono ?_); rintro e w2 ⟨rfl, rfl⟩)
                  | (go_at_call 135; (with_reducible refine (HD3.out _).mono ?_); rintro e w2 ⟨rfl, rfl⟩)
                  | (go_at_call 136; (with_reducible refine (HVC.out _).mono ?_); rintro e w2 ⟨rfl, rfl⟩))
                all_goals (go_ret2; exact ⟨_, by rw [HN.out, HR.out]; rfl, rfl⟩)
              · have hn1 : (0 : Int) < (n : Int) := by omega
                have hn2 : ((n : Int) == 0) = false := by simp; omega
                clear hn hm hbe hke hnm
                go_wp2_with (first
                  | (go_at_call 135; (with_reducible refine (HD1.out _).mono ?_); rintro e w2 ⟨rfl, rfl⟩)
                  | (go_at_call 135; (with_reducible refine (HD3.out _).mono ?_); rintro e w2 ⟨rfl, rfl⟩)
                  | (go_at_call 136; (with_reducible refine (HVC.out _).mono ?_); rintro e w2 ⟨rfl, rfl⟩))
                all_goals (go_ret2; exact ⟨_, by rw [HN.out, HR.out]; rfl, rfl⟩)
            · obtain rfl : d = 10000000000000 := by omega
              have hv' : (10000000000000 : Int) ≤ (v : Int) := by omega
              clear hd hv HRV hvl
              rcases Nat.eq_zero_or_pos n with rfl | hn0
              · obtain rfl : e = b := by omega
                have hm0 : 0 < m := by omega
                have hm1 : (0 : Int) < (m : Int) := by omega
                have hx4e := not_empty (x := x4) (by rw [HZ4.out]; exact hm0)
                have hx4f := not_empty' (x := x4) (by rw [HZ4.out]; exact hm0)
                have HD1' : Hid (∀ W, Calls Tryz.prog 135 #[.string x1] W fun e w' => e = .returned (.int .i64 0) ∧ W = w') := HD1.out
                clear hne hn hm hbe hke hnm
                go_wp2_with (first
                  | (go_at_call 135; (with_reducible refine (HD1'.out _).mono ?_); rintro e w2 ⟨rfl, rfl⟩)
                  | (go_at_call 135; (with_reducible refine (HD3.out _).mono ?_); rintro e w2 ⟨rfl, rfl⟩)
                  | (go_at_call 136; (with_reducible refine (HVC.out _).mono ?_); rintro e w2 ⟨rfl, rfl⟩))
                all_goals (go_ret2; exact ⟨_, by rw [HN.out, HR.out]; rfl, rfl⟩)
              · have hn1 : (0 : Int) < (n : Int) := by omega
                have hn2 : ((n : Int) == 0) = false := by simp; omega
                clear hn hm hbe hke hnm
                go_wp2_with (first
                  | (go_at_call 135; (with_reducible refine (HD1.out _).mono ?_); rintro e w2 ⟨rfl, rfl⟩)
                  | (go_at_call 135; (with_reducible refine (HD3.out _).mono ?_); rintro e w2 ⟨rfl, rfl⟩)
                  | (go_at_call 136; (with_reducible refine (HVC.out _).mono ?_); rintro e w2 ⟨rfl, rfl⟩))
                all_goals (go_ret2; exact ⟨_, by rw [HN.out, HR.out]; rfl, rfl⟩)
        · have HP : Hid (s.data.toList[e]? ≠ some 46) := by
            show _ ≠ _
            intro hh
            have hel : e < s.size := by rw [← hss]; exact (List.getElem?_eq_some_iff.1 hh).1
            exact hp ⟨hel, (at_nat s e hel 46).1 hh⟩
          have hr1 : ∀ h : e < s.size, ((s[e].toNat : Int) == 46) = false := fun h => by
            have : s[e].toNat ≠ 46 := fun hh => hp ⟨h, hh⟩
            simp; omega
          have HR1 := Lib.hid hr1
          clear hp hr1
          have HVC := Lib.hid (fun W => value_any x2 ⟨#[]⟩ W HS2.out (by show 0 ≤ maxLen; exact Nat.zero_le _) HG2.out (by intro b hb; cases hb))
          rw [HX2.out] at HVC
          have HRV := Lib.hid (restv_no HE.out HP.out)
          have hvl := valv_le ((s.data.toList.take e).drop b) []
          have e0 : (⟨#[]⟩ : ByteArray).data.toList = [] := rfl
          rw [e0] at HVC
          clear e0
          generalize valv ((s.data.toList.take e).drop b) [] = v at *
          obtain ⟨d, hd⟩ : ∃ d, min 10000000000000 v = d := ⟨_, rfl⟩
          have HR : Hid (restv s.data.toList b = d) := by show _ = _; rw [HRV.out, hd]
          rcases Nat.eq_zero_or_pos n with rfl | hn0
          · obtain rfl : e = b := by omega
            have HR0 : Hid (restv s.data.toList e = 0) := restv_zero HE.out HP.out
            have HD1' : Hid (∀ W, Calls Tryz.prog 135 #[.string x1] W fun e w' => e = .returned (.int .i64 0) ∧ W = w') := HD1.out
            clear hne hn hbe hd hvl
            by_cases hel : e < s.size
            · have r1 := HR1.out hel
              go_wp2_with (go_at_call 135; (with_reducible refine (HD1'.out _).mono ?_); rintro e w2 ⟨rfl, rfl⟩)
              all_goals (go_ret2; exact ⟨_, by rw [HN.out, HR0.out]; rfl, rfl⟩)
            · have r1 : ¬ (e : Int) < (s.size : Int) := by omega
              go_wp2_with (go_at_call 135; (with_reducible refine (HD1'.out _).mono ?_); rintro e w2 ⟨rfl, rfl⟩)
              all_goals (go_ret2; exact ⟨_, by rw [HN.out, HR0.out]; rfl, rfl⟩)
          · have hn2 : ((n : Int) == 0) = false := by simp; omega
            by_cases hv : v < 10000000000000
            · obtain rfl : v = d := by omega
              have hv' : (v : Int) < 10000000000000 := by omega
              clear hd hv HRV hvl hn hbe
              by_cases hel : e < s.size
              · have r1 := HR1.out hel
                go_wp2_with (first
                  | (go_at_call 135; (with_reducible refine (HD1.out _).mono ?_); rintro e w2 ⟨rfl, rfl⟩)
                  | (go_at_call 136; (with_reducible refine (HVC.out _).mono ?_); rintro e w2 ⟨rfl, rfl⟩))
                all_goals (go_ret2; exact ⟨_, by rw [HN.out, HR.out]; rfl, rfl⟩)
              · have r1 : ¬ (e : Int) < (s.size : Int) := by omega
                go_wp2_with (first
                  | (go_at_call 135; (with_reducible refine (HD1.out _).mono ?_); rintro e w2 ⟨rfl, rfl⟩)
                  | (go_at_call 136; (with_reducible refine (HVC.out _).mono ?_); rintro e w2 ⟨rfl, rfl⟩))
                all_goals (go_ret2; exact ⟨_, by rw [HN.out, HR.out]; rfl, rfl⟩)
            · obtain rfl : d = 10000000000000 := by omega
              have hv' : (10000000000000 : Int) ≤ (v : Int) := by omega
              clear hd hv HRV hvl hn hbe
              by_cases hel : e < s.size
              · have r1 := HR1.out hel
                go_wp2_with (first
                  | (go_at_call 135; (with_reducible refine (HD1.out _).mono ?_); rintro e w2 ⟨rfl, rfl⟩)
                  | (go_at_call 136; (with_reducible refine (HVC.out _).mono ?_); rintro e w2 ⟨rfl, rfl⟩))
                all_goals (go_ret2; exact ⟨_, by rw [HN.out, HR.out]; rfl, rfl⟩)
              · have r1 : ¬ (e : Int) < (s.size : Int) := by omega
                go_wp2_with (first
                  | (go_at_call 135; (with_reducible refine (HD1.out _).mono ?_); rintro e w2 ⟨rfl, rfl⟩)
                  | (go_at_call 136; (with_reducible refine (HVC.out _).mono ?_); rintro e w2 ⟨rfl, rfl⟩))
                all_goals (go_ret2; exact ⟨_, by rw [HN.out, HR.out]; rfl, rfl⟩)
      case inr.inr.inl =>
        obtain rfl : b = a := hba
        obtain ⟨q1, q2⟩ := HNB.out hlt
        have q3 : ((s[b].toNat : Int) == 45) = false := by simp; omega
        have q4 : ((s[b].toNat : Int) == 43) = false := by simp; omega
        clear hc hc2
        by_cases hp : ∃ h : e < s.size, s[e].toNat = 46
        · obtain ⟨hel, hp⟩ := hp
          have HP := Lib.hid ((at_nat s e hel 46).2 hp)
          have r1 : ((s[e].toNat : Int) == 46) = true := by simp; omega
          obtain ⟨k, hk2⟩ : ∃ k, spanEnd digit s.data.toList (e + 1) = k := ⟨_, rfl⟩
          have hks : k ≤ s.size := by rw [← hk2, ← hss]; exact span_le (by omega)
          have hke : e + 1 ≤ k := by rw [← hk2]; exact span_ge
          obtain ⟨m, hm⟩ : ∃ m, e + 1 + m = k := ⟨k - (e + 1), by omega⟩
          have hsl3 : ∀ W, (Instr.slice 9 (.string s) (some (.int .i64 ((e : Int) + 1))) none none).run Tryz.prog W = .ok (.string (s.extract (e + 1) s.size)) W := fun W => run_slice_string_l W _ s Tryz.underlying9 .i64 _ (by omega) (by omega)
          have hsl4 : ∀ W, (Instr.slice 9 (.string s) (some (.int .i64 ((e : Int) + 1))) (some (.int .i64 ((e : Int) + 1 + (m : Int)))) none).run Tryz.prog W = .ok (.string (s.extract (e + 1) k)) W := fun W => by
            rw [show ((e : Int) + 1 + (m : Int)) = ((k : Nat) : Int) from by omega, show ((e : Int) + 1) = ((e + 1 : Nat) : Int) from by omega]
            exact run_slice_string W _ s .i64 .i64 _ _ Tryz.underlying9 (by omega) (by omega) (by omega)
          have hx3 : spanEnd digit (s.extract (e + 1) s.size).data.toList 0 = m := by
            rw [from_list]
            have := span_drop (p := digit) (l := s.data.toList) (i := e + 1) (j := 0)
            rw [Nat.add_zero, hk2] at this
            omega
          have HD3 : Hid (∀ W, Calls Tryz.prog 135 #[.string (s.extract (e + 1) s.size)] W fun e w' => e = .returned (.int .i64 (m : Nat)) ∧ W = w') := fun W => by
            have := digits_any (s.extract (e + 1) s.size) W (by rw [← len_eq, from_list, List.length_drop, hss]; exact Nat.le_trans (Nat.sub_le _ _) hs')
            rw [hx3] at this
            exact this
          have hx4 : (s.extract (e + 1) k).data.toList = (s.data.toList.take k).drop (e + 1) := cut_list s (e + 1) k
          have hdg : Digs (s.extract (e + 1) k).data.toList := by rw [hx4, ← hk2]; exact span_digs _ _
          have hx4z : (s.extract (e + 1) k).size = m := by rw [← len_eq, hx4, List.length_drop, List.length_take, hss]; omega
          have hx4s : (s.extract (e + 1) k).size ≤ maxLen := by rw [hx4z]; show _ ≤ 9223372036854775807; omega
          have HK := Lib.hid hk2
          have HX4 := Lib.hid hx4
          have HG4 := Lib.hid hdg
          have HS4 := Lib.hid hx4s
          have HZ4 := Lib.hid hx4z
          have HX2b := HX2
          clear hp hk2 hx3 hx4 hdg hx4s hx4z
          generalize s.extract (e + 1) s.size = x3 at *
          generalize s.extract (e + 1) k = x4 at *
          by_cases hnm : n = 0 ∧ m = 0
          · obtain ⟨rfl, rfl⟩ := hnm
            obtain rfl : e = b := by omega
            obtain rfl : k = e + 1 := by omega
            have HR : Hid (restv s.data.toList e = 0) := restv_bare HE.out HP.out HK.out
            have HD1' : Hid (∀ W, Calls Tryz.prog 135 #[.string x1] W fun e w' => e = .returned (.int .i64 0) ∧ W = w') := HD1.out
            have HD3' : Hid (∀ W, Calls Tryz.prog 135 #[.string x3] W fun e w' => e = .returned (.int .i64 0) ∧ W = w') := HD3.out
            clear hne hn hm hbe hke
            simp only [Nat.add_zero, Int.natCast_zero, Int.add_zero] at hsl4
            go_wp2_with (first
              | (go_at_call 135; (with_reducible refine (HD1'.out _).mono ?_); rintro e w2 ⟨rfl, rfl⟩)
              | (go_at_call 135; (with_reducible refine (HD3'.out _).mono ?_); rintro e w2 ⟨rfl, rfl⟩))
            all_goals (go_ret2; exact ⟨_, by rw [HN.out, HR.out]; rfl, rfl⟩)
          · have HRV := Lib.hid (restv_yes HE.out HP.out HK.out)
            have HVC := Lib.hid (fun W => value_any x2 x4 W HS2.out HS4.out HG2.out HG4.out)
            rw [HX2.out, HX4.out] at HVC
            have hvl := valv_le ((s.data.toList.take e).drop b) ((s.data.toList.take k).drop (e + 1))
            generalize valv ((s.data.toList.take e).drop b) ((s.data.toList.take k).drop (e + 1)) = v at *
            obtain ⟨d, hd⟩ : ∃ d, min 10000000000000 v = d := ⟨_, rfl⟩
            have HR : Hid (restv s.data.toList b = d) := by show _ = _; rw [HRV.out, hd]
            have hem : ((e : Int) + (1 + (m : Int))) = (k : Int) := by omega
            by_cases hv : v < 10000000000000
            · obtain rfl : v = d := by omega
              have hv' : (v : Int) < 10000000000000 := by omega
              clear hd hv HRV hvl
              rcases Nat.eq_zero_or_pos n with rfl | hn0
              · obtain rfl : e = b := by omega
                have hm0 : 0 < m := by omega
                have hm1 : (0 : Int) < (m : Int) := by omega
                have hx4e := not_empty (x := x4) (by rw [HZ4.out]; exact hm0)
                have hx4f := not_empty' (x := x4) (by rw [HZ4.out]; exact hm0)
                have HD1' : Hid (∀ W, Calls Tryz.prog 135 #[.string x1] W fun e w' => e = .returned (.int .i64 0) ∧ W = w') := HD1.out
                clear hne hn hm hbe hke hnm
                go_wp2_with (first
                  | (go_at_call 135; (with_reducible refine (HD1'.out _).mono ?_); rintro e w2 ⟨rfl, rfl⟩)
                  | (go_at_call 135; (with_reducible refine (HD3.out _).mono ?_); rintro e w2 ⟨rfl, rfl⟩)
                  | (go_at_call 136; (with_reducible refine (HVC.out _).mono ?_); rintro e w2 ⟨rfl, rfl⟩))
                all_goals (go_ret2; exact ⟨_, by rw [HN.out, HR.out]; rfl, rfl⟩)
              · have hn1 : (0 : Int) < (n : Int) := by omega
                have hn2 : ((n : Int) == 0) = false := by simp; omega
                clear hn hm hbe hke hnm
                go_wp2_with (first
                  | (go_at_call 135; (with_reducible refine (HD1.out _).mono ?_); rintro e w2 ⟨rfl, rfl⟩)
                  | (go_at_call 135; (with_reducible refine (HD3.out _).mono ?_); rintro e w2 ⟨rfl, rfl⟩)
                  | (go_at_call 136; (with_reducible refine (HVC.out _).mono ?_); rintro e w2 ⟨rfl, rfl⟩))
                all_goals (go_ret2; exact ⟨_, by rw [HN.out, HR.out]; rfl, rfl⟩)
            · obtain rfl : d = 10000000000000 := by omega
              have hv' : (10000000000000 : Int) ≤ (v : Int) := by omega
              clear hd hv HRV hvl
              rcases Nat.eq_zero_or_pos n with rfl | hn0
              · obtain rfl : e = b := by omega
                have hm0 : 0 < m := by omega
                have hm1 : (0 : Int) < (m : Int) := by omega
                have hx4e := not_empty (x := x4) (by rw [HZ4.out]; exact hm0)
                have hx4f := not_empty' (x := x4) (by rw [HZ4.out]; exact hm0)
                have HD1' : Hid (∀ W, Calls Tryz.prog 135 #[.string x1] W fun e w' => e = .returned (.int .i64 0) ∧ W = w') := HD1.out
                clear hne hn hm hbe hke hnm
                go_wp2_with (first
                  | (go_at_call 135; (with_reducible refine (HD1'.out _).mono ?_); rintro e w2 ⟨rfl, rfl⟩)
                  | (go_at_call 135; (with_reducible refine (HD3.out _).mono ?_); rintro e w2 ⟨rfl, rfl⟩)
                  | (go_at_call 136; (with_reducible refine (HVC.out _).mono ?_); rintro e w2 ⟨rfl, rfl⟩))
                all_goals (go_ret2; exact ⟨_, by rw [HN.out, HR.out]; rfl, rfl⟩)
              · have hn1 : (0 : Int) < (n : Int) := by omega
                have hn2 : ((n : Int) == 0) = false := by simp; omega
                clear hn hm hbe hke hnm
                go_wp2_with (first
                  | (go_at_call 135; (with_reducible refine (HD1.out _).mono ?_); rintro e w2 ⟨rfl, rfl⟩)
                  | (go_at_call 135; (with_reducible refine (HD3.out _).mono ?_); rintro e w2 ⟨rfl, rfl⟩)
                  | (go_at_call 136; (with_reducible refine (HVC.out _).mono ?_); rintro e w2 ⟨rfl, rfl⟩))
                all_goals (go_ret2; exact ⟨_, by rw [HN.out, HR.out]; rfl, rfl⟩)
        · have HP : Hid (s.data.toList[e]? ≠ some 46) := by
            show _ ≠ _
            intro hh
            have hel : e < s.size := by rw [← hss]; exact (List.getElem?_eq_some_iff.1 hh).1
            exact hp ⟨hel, (at_nat s e hel 46).1 hh⟩
          have hr1 : ∀ h : e < s.size, ((s[e].toNat : Int) == 46) = false := fun h => by
            have : s[e].toNat ≠ 46 := fun hh => hp ⟨h, hh⟩
            simp; omega
          have HR1 := Lib.hid hr1
          clear hp hr1
          have HVC := Lib.hid (fun W => value_any x2 ⟨#[]⟩ W HS2.out (by show 0 ≤ maxLen; exact Nat.zero_le _) HG2.out (by intro b hb; cases hb))
          rw [HX2.out] at HVC
          have HRV := Lib.hid (restv_no HE.out HP.out)
          have hvl := valv_le ((s.data.toList.take e).drop b) []
          have e0 : (⟨#[]⟩ : ByteArray).data.toList = [] := rfl
          rw [e0] at HVC
          clear e0
          generalize valv ((s.data.toList.take e).drop b) [] = v at *
          obtain ⟨d, hd⟩ : ∃ d, min 10000000000000 v = d := ⟨_, rfl⟩
          have HR : Hid (restv s.data.toList b = d) := by show _ = _; rw [HRV.out, hd]
          rcases Nat.eq_zero_or_pos n with rfl | hn0
          · obtain rfl : e = b := by omega
            have HR0 : Hid (restv s.data.toList e = 0) := restv_zero HE.out HP.out
            have HD1' : Hid (∀ W, Calls Tryz.prog 135 #[.string x1] W fun e w' => e = .returned (.int .i64 0) ∧ W = w') := HD1.out
            clear hne hn hbe hd hvl
            by_cases hel : e < s.size
            · have r1 := HR1.out hel
              go_wp2_with (go_at_call 135; (with_reducible refine (HD1'.out _).mono ?_); rintro e w2 ⟨rfl, rfl⟩)
              all_goals (go_ret2; exact ⟨_, by rw [HN.out, HR0.out]; rfl, rfl⟩)
            · have r1 : ¬ (e : Int) < (s.size : Int) := by omega
              go_wp2_with (go_at_call 135; (with_reducible refine (HD1'.out _).mono ?_); rintro e w2 ⟨rfl, rfl⟩)
              all_goals (go_ret2; exact ⟨_, by rw [HN.out, HR0.out]; rfl, rfl⟩)
          · have hn2 : ((n : Int) == 0) = false := by simp; omega
            by_cases hv : v < 10000000000000
            · obtain rfl : v = d := by omega
              have hv' : (v : Int) < 10000000000000 := by omega
              clear hd hv HRV hvl hn hbe
              by_cases hel : e < s.size
              · have r1 := HR1.out hel
                go_wp2_with (first
                  | (go_at_call 135; (with_reducible refine (HD1.out _).mono ?_); rintro e w2 ⟨rfl, rfl⟩)
                  | (go_at_call 136; (with_reducible refine (HVC.out _).mono ?_); rintro e w2 ⟨rfl, rfl⟩))
                all_goals (go_ret2; exact ⟨_, by rw [HN.out, HR.out]; rfl, rfl⟩)
              · have r1 : ¬ (e : Int) < (s.size : Int) := by omega
                go_wp2_with (first
                  | (go_at_call 135; (with_reducible refine (HD1.out _).mono ?_); rintro e w2 ⟨rfl, rfl⟩)
                  | (go_at_call 136; (with_reducible refine (HVC.out _).mono ?_); rintro e w2 ⟨rfl, rfl⟩))
                all_goals (go_ret2; exact ⟨_, by rw [HN.out, HR.out]; rfl, rfl⟩)
            · obtain rfl : d = 10000000000000 := by omega
              have hv' : (10000000000000 : Int) ≤ (v : Int) := by omega
              clear hd hv HRV hvl hn hbe
              by_cases hel : e < s.size
              · have r1 := HR1.out hel
                go_wp2_with (first
                  | (go_at_call 135; (with_reducible refine (HD1.out _).mono ?_); rintro e w2 ⟨rfl, rfl⟩)
                  | (go_at_call 136; (with_reducible refine (HVC.out _).mono ?_); rintro e w2 ⟨rfl, rfl⟩))
                all_goals (go_ret2; exact ⟨_, by rw [HN.out, HR.out]; rfl, rfl⟩)
              · have r1 : ¬ (e : Int) < (s.size : Int) := by omega
                go_wp2_with (first
                  | (go_at_call 135; (with_reducible refine (HD1.out _).mono ?_); rintro e w2 ⟨rfl, rfl⟩)
                  | (go_at_call 136; (with_reducible refine (HVC.out _).mono ?_); rintro e w2 ⟨rfl, rfl⟩))
                all_goals (go_ret2; exact ⟨_, by rw [HN.out, HR.out]; rfl, rfl⟩)
      case inr.inr.inr =>
        obtain rfl : b = a := hba
        obtain rfl : e = b := by omega
        obtain rfl : n = 0 := by omega
        have hab : ¬ (e : Int) < (s.size : Int) := by omega
        have HR0 : Hid (restv s.data.toList e = 0) := restv_zero HE.out (by rw [at_none s (by omega)]; intro h; cases h)
        have HD1' : Hid (∀ W, Calls Tryz.prog 135 #[.string x1] W fun e w' => e = .returned (.int .i64 0) ∧ W = w') := HD1.out
        clear hne hn hbe hae
        go_wp2_with (go_at_call 135; (with_reducible refine (HD1'.out _).mono ?_); rintro e w2 ⟨rfl, rfl⟩)
        all_goals (go_ret2; exact ⟨_, by rw [HN.out, HR0.out]; rfl, rfl⟩)
end Go.Proofs.YtkekpiillbpciaaGreatDoor.KNum
