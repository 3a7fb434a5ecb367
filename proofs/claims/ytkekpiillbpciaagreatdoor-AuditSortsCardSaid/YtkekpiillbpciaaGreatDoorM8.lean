/- The number at the beginning of a string: what the reference's Prefix returns. No condition but that the string is one. -/
import Derived.Test.YtkekpiillbpciaaGreatDoorM7
namespace Go.Proofs.YtkekpiillbpciaaGreatDoor.KNum
open Go Go.RowKit KeyMath ScanMath NumMath Strs
set_option maxRecDepth 100000

theorem number_cases (a f : List UInt8) : (∃ z, numberV a f = .tuple #[.int .i64 z, .bool false] ∧ min 10000000000000 (numv a * 10000 + fracv f) = 10000000000000) ∨
    (∃ d : Nat, numberV a f = .tuple #[.int .i64 (d : Int), .bool true] ∧ min 10000000000000 (numv a * 10000 + fracv f) = d ∧ d ≤ 10000000000000) := by
  unfold numberV
  by_cases h : 1000000000 < numv a
  · rw [if_pos h]
    exact .inl ⟨0, rfl, by omega⟩
  · rw [if_neg h]
    by_cases h2 : numv a * 10000 + fracv f ≤ 10000000000000
    · rw [decide_eq_true h2]
      exact .inr ⟨_, rfl, by omega, h2⟩
    · rw [decide_eq_false h2]
      exact .inl ⟨_, rfl, by omega⟩
theorem rest_no {l : List UInt8} {b e : Nat} (he : spanEnd digit l b = e) (h : l[e]? ≠ some 46) : restv l b = min 10000000000000 (numv ((l.take e).drop b) * 10000 + fracv []) := by
  unfold restv after
  rw [he, if_neg h]
theorem rest_yes {l : List UInt8} {b e k : Nat} (he : spanEnd digit l b = e) (h : l[e]? = some 46) (hk : spanEnd digit l (e + 1) = k) : restv l b = min 10000000000000 (numv ((l.take e).drop b) * 10000 + fracv ((l.take k).drop (e + 1))) := by
  unfold restv after
  rw [he, if_pos h, hk]
set_option maxHeartbeats 8000000 in
theorem refPrefix_any (s : ByteArray) (w : World) (hs : s.size ≤ maxLen) :
    Calls Tryz.prog 148 #[.string s] w (PPost s.data.toList w) := by
  have hs' : s.size ≤ 9223372036854775807 := hs
  clear hs
  go_enter Tryz.func148, Tryz.ntmps148
  go_wp2
  go_loop [4] (fun i => ∃ k : Nat, k ≤ s.size ∧ i = .int .i64 k ∧ Hid (spanEnd isBlank s.data.toList k = spanEnd isBlank s.data.toList 0)) (fun i => s.size - (intOf i).toNat)
  case atStart => exact ⟨0, Nat.zero_le _, rfl, rfl⟩
  case round =>
    obtain ⟨a, hk, rfl, H⟩ := hrel
    have hend : (¬ ∃ h : a < s.size, isBlank s[a] = true) → Hid (spanEnd isBlank s.data.toList 0 = a) := fun hn => by
      show _ = _
      rw [← H.out]
      refine span_stop fun x hx => ?_
      by_cases hlt : a < s.size
      · rw [at_some s hlt] at hx
        cases hx
        cases hb : isBlank s[a] with
        | false => rfl
        | true => exact absurd ⟨hlt, hb⟩ hn
      · rw [at_none s hlt] at hx; cases hx
    by_cases hb : ∃ h : a < s.size, isBlank s[a] = true
    · obtain ⟨hlt, hb⟩ := hb
      have H2 : Hid (spanEnd isBlank s.data.toList (a + 1) = spanEnd isBlank s.data.toList 0) := by show _ = _; rw [← H.out, span_go (at_some s hlt) hb]
      rcases (blank_iff _).1 hb with hc | hc
      · have q1 : ((s[a].toNat : Int) == 32) = true := by simp; omega
        clear hb hc hend
        go_wp2
        go_round
        case rel => exact ⟨a + 1, by omega, by go_num, H2⟩
        case measure => simp [intOf]; omega
      · have q1 : ((s[a].toNat : Int) == 32) = false := by simp; omega
        have q2 : ((s[a].toNat : Int) == 9) = true := by simp; omega
        clear hb hc hend
        go_wp2
        go_round
        case rel => exact ⟨a + 1, by omega, by go_num, H2⟩
        case measure => simp [intOf]; omega
    · have HA := hend hb
      obtain ⟨b, neg, hnum, hbs, hcase⟩ := sign_cases s HA.out hk
      have HN := Lib.hid hnum
      have hnb : ∀ h : a < s.size, ((s[a].toNat : Int) == 32) = false ∧ ((s[a].toNat : Int) == 9) = false := fun h => by
        have : ¬ (s[a].toNat = 32 ∨ s[a].toNat = 9) := fun hh => hb ⟨h, (blank_iff _).2 hh⟩
        constructor <;> simp <;> omega
      clear hnum hb hend H HA
      -- what lies behind the sign
      have hss : s.data.toList.length = s.size := len_eq s
      obtain ⟨e, he⟩ : ∃ e, spanEnd digit s.data.toList b = e := ⟨_, rfl⟩
      have hes : e ≤ s.size := by rw [← he, ← hss]; exact span_le (by omega)
      have hbe : b ≤ e := by rw [← he]; exact span_ge
      obtain ⟨n, hn⟩ : ∃ n, b + n = e := ⟨e - b, by omega⟩
      have hsl2 : ∀ W, (Instr.slice 9 (.string s) (some (.int .i64 (b : Int))) (some (.int .i64 (e : Int))) none).run Tryz.prog W = .ok (.string (s.extract b e)) W := fun W => run_slice_string W _ s .i64 .i64 _ _ Tryz.underlying9 (by omega) (by omega) (by omega)
      have HD1 : Hid (∀ W, Calls Tryz.prog 192 #[.string s, .int .i64 (b : Int)] W fun e' w' => e' = .returned (.int .i64 (e : Nat)) ∧ W = w') := fun W => by
        have := refDigits_any s b W hs' hbs
        rw [he] at this
        exact this
      have hx2 : (s.extract b e).data.toList = (s.data.toList.take e).drop b := cut_list s b e
      have hdg : Digs (s.extract b e).data.toList := by rw [hx2, ← he]; exact span_digs _ _
      have hx2s : (s.extract b e).size ≤ maxLen := by rw [← len_eq, hx2, List.length_drop, List.length_take]; show _ ≤ 9223372036854775807; omega
      have HE := Lib.hid he
      have HX2 := Lib.hid hx2
      have HG2 := Lib.hid hdg
      have HS2 := Lib.hid hx2s
      clear he hx2 hdg hx2s
      generalize s.extract b e = x2 at *
      have HNB := Lib.hid hnb
      clear hnb
      rcases hcase with ⟨hlt, hc, hba, rfl⟩ | ⟨hlt, hc, hba, rfl⟩ | ⟨hlt, hc, hc2, hba, rfl⟩ | ⟨hae, hba, rfl⟩
      case inl =>
        obtain ⟨q1, q2⟩ := HNB.out hlt
        have q3 : ((s[a].toNat : Int) == 45) = true := by simp; omega
        have hab : (a : Int) + 1 = (b : Int) := by omega
        clear hc hba
        by_cases hp : ∃ h : e < s.size, s[e].toNat = 46
        · obtain ⟨hel, hp⟩ := hp
          have HP := Lib.hid ((at_nat s e hel 46).2 hp)
          have r1 : ((s[e].toNat : Int) == 46) = true := by simp; omega
          obtain ⟨k, hk2⟩ : ∃ k, spanEnd digit s.data.toList (e + 1) = k := ⟨_, rfl⟩
          have hks : k ≤ s.size := by rw [← hk2, ← hss]; exact span_le (by omega)
          have hke : e + 1 ≤ k := by rw [← hk2]; exact span_ge
          have hsl4 : ∀ W, (Instr.slice 9 (.string s) (some (.int .i64 ((e : Int) + 1))) (some (.int .i64 (k : Int))) none).run Tryz.prog W = .ok (.string (s.extract (e + 1) k)) W := fun W => by
            rw [show ((e : Int) + 1) = ((e + 1 : Nat) : Int) from by omega]
            exact run_slice_string W _ s .i64 .i64 _ _ Tryz.underlying9 (by omega) (by omega) (by omega)
          have HD3 : Hid (∀ W, Calls Tryz.prog 192 #[.string s, .int .i64 ((e : Int) + 1)] W fun e' w' => e' = .returned (.int .i64 (k : Nat)) ∧ W = w') := fun W => by
            have := refDigits_any s (e + 1) W hs' (by omega)
            rw [hk2] at this
            exact this
          have hx4 : (s.extract (e + 1) k).data.toList = (s.data.toList.take k).drop (e + 1) := cut_list s (e + 1) k
          have hdg : Digs (s.extract (e + 1) k).data.toList := by rw [hx4, ← hk2]; exact span_digs _ _
          have hx4z : (s.extract (e + 1) k).size = k - (e + 1) := by rw [← len_eq, hx4, List.length_drop, List.length_take, hss]; omega
          have HK := Lib.hid hk2
          have HX4 := Lib.hid hx4
          have HG4 := Lib.hid hdg
          clear hp hk2 hx4 hdg
          generalize s.extract (e + 1) k = x4 at *
          by_cases hnm : e = b ∧ k = e + 1
          · obtain ⟨rfl, rfl⟩ := hnm
            have HR : Hid (restv s.data.toList e = 0) := restv_bare HE.out HP.out HK.out
            have HD3' : Hid (∀ W, Calls Tryz.prog 192 #[.string s, .int .i64 ((e : Int) + 1)] W fun e' w' => e' = .returned (.int .i64 ((e : Int) + 1)) ∧ W = w') := HD3.out
            clear hn hbe hke hx4z
            go_wp2_with (first
              | (go_at_call 192; (with_reducible refine (HD1.out _).mono ?_); rintro e w2 ⟨rfl, rfl⟩)
              | (go_at_call 192; (with_reducible refine (HD3'.out _).mono ?_); rintro e w2 ⟨rfl, rfl⟩))
            all_goals (go_ret2; exact ⟨_, by rw [HN.out, HR.out]; rfl, rfl⟩)
          · have HRV := Lib.hid (rest_yes HE.out HP.out HK.out)
            have hkb : ((k : Int) == (b : Int)) = false := by simp; omega
            have hor : ¬ (b : Int) < (e : Int) → ((e : Int) + 1 < (k : Int)) := by omega
            have HOR := Lib.hid hor
            -- the digits behind the point, at most four of them
            by_cases h4 : 4 < x4.size
            · have h4' : (4 : Int) < (x4.size : Int) := by omega
              have hsl5 : ∀ W, (Instr.slice 9 (.string x4) none (some (.int .i64 4)) none).run Tryz.prog W = .ok (.string (x4.extract 0 4)) W := fun W => run_slice_string_h W _ x4 Tryz.underlying9 .i64 _ (by omega) (by omega)
              have hx5 : (x4.extract 0 4).data.toList = x4.data.toList.take 4 := by rw [cut_list]; rfl
              have hdg5 : Digs (x4.extract 0 4).data.toList := by rw [hx5]; intro b hb; exact HG4.out b (List.mem_of_mem_take hb)
              have hz5 : (x4.extract 0 4).size ≤ maxLen := by rw [← len_eq, hx5, List.length_take]; show _ ≤ 9223372036854775807; omega
              have HVC0 := Lib.hid (fun W => number_any x2 (x4.extract 0 4) W HS2.out hz5 HG2.out hdg5)
              rw [HX2.out, hx5, HX4.out] at HVC0
              have hfr := fracv_take ((s.data.toList.take k).drop (e + 1))
              have hnc := number_cases ((s.data.toList.take e).drop b) (((s.data.toList.take k).drop (e + 1)).take 4)
              rw [hfr] at hnc
              clear hx5 hdg5 hz5 hfr hx4z
              generalize x4.extract 0 4 = x5 at *
              rcases hnc with ⟨z, e1, e2⟩ | ⟨d, e1, e2, hd⟩
              · rw [e1] at HVC0
                have HR : Hid (restv s.data.toList b = 10000000000000) := by show _ = _; rw [HRV.out, e2]
                have HVC := HVC0
                clear e1 e2 HRV hn hbe hke hnm hor
                by_cases hbe' : (b : Int) < (e : Int)
                · go_wp2_with (first
                    | (go_at_call 192; (with_reducible refine (HD1.out _).mono ?_); rintro e w2 ⟨rfl, rfl⟩)
                    | (go_at_call 192; (with_reducible refine (HD3.out _).mono ?_); rintro e w2 ⟨rfl, rfl⟩)
                    | (go_at_call 193; (with_reducible refine (HVC.out _).mono ?_); rintro e w2 ⟨rfl, rfl⟩))
                  all_goals (go_ret2; exact ⟨_, by rw [HN.out, HR.out]; rfl, rfl⟩)
                · have hek := HOR.out hbe'
                  go_wp2_with (first
                    | (go_at_call 192; (with_reducible refine (HD1.out _).mono ?_); rintro e w2 ⟨rfl, rfl⟩)
                    | (go_at_call 192; (with_reducible refine (HD3.out _).mono ?_); rintro e w2 ⟨rfl, rfl⟩)
                    | (go_at_call 193; (with_reducible refine (HVC.out _).mono ?_); rintro e w2 ⟨rfl, rfl⟩))
                  all_goals (go_ret2; exact ⟨_, by rw [HN.out, HR.out]; rfl, rfl⟩)
              · rw [e1] at HVC0
                have HR : Hid (restv s.data.toList b = d) := by show _ = _; rw [HRV.out, e2]
                have HVC := HVC0
                have hd' : (d : Int) ≤ 10000000000000 := by omega
                clear e1 e2 HRV hn hbe hke hnm hor hd
                by_cases hbe' : (b : Int) < (e : Int)
                · go_wp2_with (first
                    | (go_at_call 192; (with_reducible refine (HD1.out _).mono ?_); rintro e w2 ⟨rfl, rfl⟩)
                    | (go_at_call 192; (with_reducible refine (HD3.out _).mono ?_); rintro e w2 ⟨rfl, rfl⟩)
                    | (go_at_call 193; (with_reducible refine (HVC.out _).mono ?_); rintro e w2 ⟨rfl, rfl⟩))
                  all_goals (go_ret2; exact ⟨_, by rw [HN.out, HR.out]; rfl, rfl⟩)
                · have hek := HOR.out hbe'
                  go_wp2_with (first
                    | (go_at_call 192; (with_reducible refine (HD1.out _).mono ?_); rintro e w2 ⟨rfl, rfl⟩)
                    | (go_at_call 192; (with_reducible refine (HD3.out _).mono ?_); rintro e w2 ⟨rfl, rfl⟩)
                    | (go_at_call 193; (with_reducible refine (HVC.out _).mono ?_); rintro e w2 ⟨rfl, rfl⟩))
                  all_goals (go_ret2; exact ⟨_, by rw [HN.out, HR.out]; rfl, rfl⟩)
            · have h4' : ¬ (4 : Int) < (x4.size : Int) := by omega
              have hz4 : x4.size ≤ maxLen := by show _ ≤ 9223372036854775807; omega
              have HVC0 := Lib.hid (fun W => number_any x2 x4 W HS2.out hz4 HG2.out HG4.out)
              rw [HX2.out, HX4.out] at HVC0
              have hnc := number_cases ((s.data.toList.take e).drop b) ((s.data.toList.take k).drop (e + 1))
              clear hz4 hx4z
              rcases hnc with ⟨z, e1, e2⟩ | ⟨d, e1, e2, hd⟩
              · rw [e1] at HVC0
                have HR : Hid (restv s.data.toList b = 10000000000000) := by show _ = _; rw [HRV.out, e2]
                have HVC := HVC0
                clear e1 e2 HRV hn hbe hke hnm hor
                by_cases hbe' : (b : Int) < (e : Int)
                · go_wp2_with (first
                    | (go_at_call 192; (with_reducible refine (HD1.out _).mono ?_); rintro e w2 ⟨rfl, rfl⟩)
                    | (go_at_call 192; (with_reducible refine (HD3.out _).mono ?_); rintro e w2 ⟨rfl, rfl⟩)
                    | (go_at_call 193; (with_reducible refine (HVC.out _).mono ?_); rintro e w2 ⟨rfl, rfl⟩))
                  all_goals (go_ret2; exact ⟨_, by rw [HN.out, HR.out]; rfl, rfl⟩)
                · have hek := HOR.out hbe'
                  go_wp2_with (first
                    | (go_at_call 192; (with_reducible refine (HD1.out _).mono ?_); rintro e w2 ⟨rfl, rfl⟩)
                    | (go_at_call 192; (with_reducible refine (HD3.out _).mono ?_); rintro e w2 ⟨rfl, rfl⟩)
                    | (go_at_call 193; (with_reducible refine (HVC.out _).mono ?_); rintro e w2 ⟨rfl, rfl⟩))
                  all_goals (go_ret2; exact ⟨_, by rw [HN.out, HR.out]; rfl, rfl⟩)
              · rw [e1] at HVC0
                have HR : Hid (restv s.data.toList b = d) := by show _ = _; rw [HRV.out, e2]
                have HVC := HVC0
                have hd' : (d : Int) ≤ 10000000000000 := by omega
                clear e1 e2 HRV hn hbe hke hnm hor hd
                by_cases hbe' : (b : Int) < (e : Int)
                · go_wp2_with (first
                    | (go_at_call 192; (with_reducible refine (HD1.out _).mono ?_); rintro e w2 ⟨rfl, rfl⟩)
                    | (go_at_call 192; (with_reducible refine (HD3.out _).mono ?_); rintro e w2 ⟨rfl, rfl⟩)
                    | (go_at_call 193; (with_reducible refine (HVC.out _).mono ?_); rintro e w2 ⟨rfl, rfl⟩))
                  all_goals (go_ret2; exact ⟨_, by rw [HN.out, HR.out]; rfl, rfl⟩)
                · have hek := HOR.out hbe'
                  go_wp2_with (first
                    | (go_at_call 192; (with_reducible refine (HD1.out _).mono ?_); rintro e w2 ⟨rfl, rfl⟩)
                    | (go_at_call 192; (with_reducible refine (HD3.out _).mono ?_); rintro e w2 ⟨rfl, rfl⟩)
                    | (go_at_call 193; (with_reducible refine (HVC.out _).mono ?_); rintro e w2 ⟨rfl, rfl⟩))
                  all_goals (go_ret2; exact ⟨_, by rw [HN.out, HR.out]; rfl, rfl⟩)
        · have HP : Hid (s.data.toList[e]? ≠ some 46) := by
            show _ ≠ _
            intro hh
            have hel : e < s.size := by rw [← hss]; exact (List.getElem?_eq_some_iff.1 hh).1
            exact hp ⟨hel, (at_nat s e hel 46).1 hh⟩
          have hr1 : ∀ h : e < s.size, ((s[e].toNat : Int) == 46) = false := fun h => by
            have : s[e].toNat ≠ 46 := fun hh => hp ⟨h, hh⟩
            simp; omega
          have HR1 := Lib.hid hr1
          clear hp hr1
          by_cases heb : e = b
          · obtain rfl := heb
            have HR : Hid (restv s.data.toList e = 0) := restv_zero HE.out HP.out
            clear hn hbe
            by_cases hel : e < s.size
            · have r1 := HR1.out hel
              go_wp2_with (go_at_call 192; (with_reducible refine (HD1.out _).mono ?_); rintro e w2 ⟨rfl, rfl⟩)
              all_goals (go_ret2; exact ⟨_, by rw [HN.out, HR.out]; rfl, rfl⟩)
            · have r1 : ¬ (e : Int) < (s.size : Int) := by omega
              go_wp2_with (go_at_call 192; (with_reducible refine (HD1.out _).mono ?_); rintro e w2 ⟨rfl, rfl⟩)
              all_goals (go_ret2; exact ⟨_, by rw [HN.out, HR.out]; rfl, rfl⟩)
          · have hn2 : ((e : Int) == (b : Int)) = false := by simp; omega
            have HVC0 := Lib.hid (fun W => number_any x2 ⟨#[]⟩ W HS2.out (by show 0 ≤ maxLen; exact Nat.zero_le _) HG2.out (by intro b hb; cases hb))
            have e0 : (⟨#[]⟩ : ByteArray).data.toList = [] := rfl
            rw [HX2.out, e0] at HVC0
            clear e0
            have HRV := Lib.hid (rest_no HE.out HP.out)
            have hnc := number_cases ((s.data.toList.take e).drop b) []
            rcases hnc with ⟨z, e1, e2⟩ | ⟨d, e1, e2, hd⟩
            · rw [e1] at HVC0
              have HR : Hid (restv s.data.toList b = 10000000000000) := by show _ = _; rw [HRV.out, e2]
              have HVC := HVC0
              clear e1 e2 HRV hn hbe heb
              by_cases hel : e < s.size
              · have r1 := HR1.out hel
                go_wp2_with (first
                  | (go_at_call 192; (with_reducible refine (HD1.out _).mono ?_); rintro e w2 ⟨rfl, rfl⟩)
                  | (go_at_call 193; (with_reducible refine (HVC.out _).mono ?_); rintro e w2 ⟨rfl, rfl⟩))
                all_goals (go_ret2; exact ⟨_, by rw [HN.out, HR.out]; rfl, rfl⟩)
              · have r1 : ¬ (e : Int) < (s.size : Int) := by omega
                go_wp2_with (first
                  | (go_at_call 192; (with_reducible refine (HD1.out _).mono ?_); rintro e w2 ⟨rfl, rfl⟩)
                  | (go_at_call 193; (with_reducible refine (HVC.out _).mono ?_); rintro e w2 ⟨rfl, rfl⟩))
                all_goals (go_ret2; exact ⟨_, by rw [HN.out, HR.out]; rfl, rfl⟩)
            · rw [e1] at HVC0
              have HR : Hid (restv s.data.toList b = d) := by show _ = _; rw [HRV.out, e2]
              have HVC := HVC0
              have hd' : (d : Int) ≤ 10000000000000 := by omega
              clear e1 e2 HRV hn hbe heb hd
              by_cases hel : e < s.size
              · have r1 := HR1.out hel
                go_wp2_with (first
                  | (go_at_call 192; (with_reducible refine (HD1.out _).mono ?_); rintro e w2 ⟨rfl, rfl⟩)
                  | (go_at_call 193; (with_reducible refine (HVC.out _).mono ?_); rintro e w2 ⟨rfl, rfl⟩))
                all_goals (go_ret2; exact ⟨_, by rw [HN.out, HR.out]; rfl, rfl⟩)
              · have r1 : ¬ (e : Int) < (s.size : Int) := by omega
                go_wp2_with (first
                  | (go_at_call 192; (with_reducible refine (HD1.out _).mono ?_); rintro e w2 ⟨rfl, rfl⟩)
                  | (go_at_call 193; (with_reducible refine (HVC.out _).mono ?_); rintro e w2 ⟨rfl, rfl⟩))
                all_goals (go_ret2; exact ⟨_, by rw [HN.out, HR.out]; rfl, rfl⟩)
      case inr.inl =>
        obtain ⟨q1, q2⟩ := HNB.out hlt
        have q3 : ((s[a].toNat : Int) == 45) = false := by simp; omega
        have q4 : ((s[a].toNat : Int) == 43) = true := by simp; omega
        have hab : (a : Int) + 1 = (b : Int) := by omega
        clear hc hba
        by_cases hp : ∃ h : e < s.size, s[e].toNat = 46
        · obtain ⟨hel, hp⟩ := hp
          have HP := Lib.hid ((at_nat s e hel 46).2 hp)
          have r1 : ((s[e].toNat : Int) == 46) = true := by simp; omega
          obtain ⟨k, hk2⟩ : ∃ k, spanEnd digit s.data.toList (e + 1) = k := ⟨_, rfl⟩
          have hks : k ≤ s.size := by rw [← hk2, ← hss]; exact span_le (by omega)
          have hke : e + 1 ≤ k := by rw [← hk2]; exact span_ge
          have hsl4 : ∀ W, (Instr.slice 9 (.string s) (some (.int .i64 ((e : Int) + 1))) (some (.int .i64 (k : Int))) none).run Tryz.prog W = .ok (.string (s.extract (e + 1) k)) W := fun W => by
            rw [show ((e : Int) + 1) = ((e + 1 : Nat) : Int) from by omega]
            exact run_slice_string W _ s .i64 .i64 _ _ Tryz.underlying9 (by omega) (by omega) (by omega)
          have HD3 : Hid (∀ W, Calls Tryz.prog 192 #[.string s, .int .i64 ((e : Int) + 1)] W fun e' w' => e' = .returned (.int .i64 (k : Nat)) ∧ W = w') := fun W => by
            have := refDigits_any s (e + 1) W hs' (by omega)
            rw [hk2] at this
            exact this
          have hx4 : (s.extract (e + 1) k).data.toList = (s.data.toList.take k).drop (e + 1) := cut_list s (e + 1) k
          have hdg : Digs (s.extract (e + 1) k).data.toList := by rw [hx4, ← hk2]; exact span_digs _ _
          have hx4z : (s.extract (e + 1) k).size = k - (e + 1) := by rw [← len_eq, hx4, List.length_drop, List.length_take, hss]; omega
          have HK := Lib.hid hk2
          have HX4 := Lib.hid hx4
          have HG4 := Lib.hid hdg
          clear hp hk2 hx4 hdg
          generalize s.extract (e + 1) k = x4 at *
          by_cases hnm : e = b ∧ k = e + 1
          · obtain ⟨rfl, rfl⟩ := hnm
            have HR : Hid (restv s.data.toList e = 0) := restv_bare HE.out HP.out HK.out
            have HD3' : Hid (∀ W, Calls Tryz.prog 192 #[.string s, .int .i64 ((e : Int) + 1)] W fun e' w' => e' = .returned (.int .i64 ((e : Int) + 1)) ∧ W = w') := HD3.out
            clear hn hbe hke hx4z
            go_wp2_with (first
              | (go_at_call 192; (with_reducible refine (HD1.out _).mono ?_); rintro e w2 ⟨rfl, rfl⟩)
              | (go_at_call 192; (with_reducible refine (HD3'.out _).mono ?_); rintro e w2 ⟨rfl, rfl⟩))
            all_goals (go_ret2; exact ⟨_, by rw [HN.out, HR.out]; rfl, rfl⟩)
          · have HRV := Lib.hid (rest_yes HE.out HP.out HK.out)
            have hkb : ((k : Int) == (b : Int)) = false := by simp; omega
            have hor : ¬ (b : Int) < (e : Int) → ((e : Int) + 1 < (k : Int)) := by omega
            have HOR := Lib.hid hor
            -- the digits behind the point, at most four of them
            by_cases h4 : 4 < x4.size
            · have h4' : (4 : Int) < (x4.size : Int) := by omega
              have hsl5 : ∀ W, (Instr.slice 9 (.string x4) none (some (.int .i64 4)) none).run Tryz.prog W = .ok (.string (x4.extract 0 4)) W := fun W => run_slice_string_h W _ x4 Tryz.underlying9 .i64 _ (by omega) (by omega)
              have hx5 : (x4.extract 0 4).data.toList = x4.data.toList.take 4 := by rw [cut_list]; rfl
              have hdg5 : Digs (x4.extract 0 4).data.toList := by rw [hx5]; intro b hb; exact HG4.out b (List.mem_of_mem_take hb)
              have hz5 : (x4.extract 0 4).size ≤ maxLen := by rw [← len_eq, hx5, List.length_take]; show _ ≤ 9223372036854775807; omega
              have HVC0 := Lib.hid (fun W => number_any x2 (x4.extract 0 4) W HS2.out hz5 HG2.out hdg5)
              rw [HX2.out, hx5, HX4.out] at HVC0
              have hfr := fracv_take ((s.data.toList.take k).drop (e + 1))
              have hnc := number_cases ((s.data.toList.take e).drop b) (((s.data.toList.take k).drop (e + 1)).take 4)
              rw [hfr] at hnc
              clear hx5 hdg5 hz5 hfr hx4z
              generalize x4.extract 0 4 = x5 at *
              rcases hnc with ⟨z, e1, e2⟩ | ⟨d, e1, e2, hd⟩
              · rw [e1] at HVC0
                have HR : Hid (restv s.data.toList b = 10000000000000) := by show _ = _; rw [HRV.out, e2]
                have HVC := HVC0
                clear e1 e2 HRV hn hbe hke hnm hor
                by_cases hbe' : (b : Int) < (e : Int)
                · go_wp2_with (first
                    | (go_at_call 192; (with_reducible refine (HD1.out _).mono ?_); rintro e w2 ⟨rfl, rfl⟩)
                    | (go_at_call 192; (with_reducible refine (HD3.out _).mono ?_); rintro e w2 ⟨rfl, rfl⟩)
                    | (go_at_call 193; (with_reducible refine (HVC.out _).mono ?_); rintro e w2 ⟨rfl, rfl⟩))
                  all_goals (go_ret2; exact ⟨_, by rw [HN.out, HR.out]; rfl, rfl⟩)
                · have hek := HOR.out hbe'
                  go_wp2_with (first
                    | (go_at_call 192; (with_reducible refine (HD1.out _).mono ?_); rintro e w2 ⟨rfl, rfl⟩)
                    | (go_at_call 192; (with_reducible refine (HD3.out _).mono ?_); rintro e w2 ⟨rfl, rfl⟩)
                    | (go_at_call 193; (with_reducible refine (HVC.out _).mono ?_); rintro e w2 ⟨rfl, rfl⟩))
                  all_goals (go_ret2; exact ⟨_, by rw [HN.out, HR.out]; rfl, rfl⟩)
              · rw [e1] at HVC0
                have HR : Hid (restv s.data.toList b = d) := by show _ = _; rw [HRV.out, e2]
                have HVC := HVC0
                have hd' : (d : Int) ≤ 10000000000000 := by omega
                clear e1 e2 HRV hn hbe hke hnm hor hd
                by_cases hbe' : (b : Int) < (e : Int)
                · go_wp2_with (first
                    | (go_at_call 192; (with_reducible refine (HD1.out _).mono ?_); rintro e w2 ⟨rfl, rfl⟩)
                    | (go_at_call 192; (with_reducible refine (HD3.out _).mono ?_); rintro e w2 ⟨rfl, rfl⟩)
                    | (go_at_call 193; (with_reducible refine (HVC.out _).mono ?_); rintro e w2 ⟨rfl, rfl⟩))
                  all_goals (go_ret2; exact ⟨_, by rw [HN.out, HR.out]; rfl, rfl⟩)
                · have hek := HOR.out hbe'
                  go_wp2_with (first
                    | (go_at_call 192; (with_reducible refine (HD1.out _).mono ?_); rintro e w2 ⟨rfl, rfl⟩)
                    | (go_at_call 192; (with_reducible refine (HD3.out _).mono ?_); rintro e w2 ⟨rfl, rfl⟩)
                    | (go_at_call 193; (with_reducible refine (HVC.out _).mono ?_); rintro e w2 ⟨rfl, rfl⟩))
                  all_goals (go_ret2; exact ⟨_, by rw [HN.out, HR.out]; rfl, rfl⟩)
            · have h4' : ¬ (4 : Int) < (x4.size : Int) := by omega
              have hz4 : x4.size ≤ maxLen := by show _ ≤ 9223372036854775807; omega
              have HVC0 := Lib.hid (fun W => number_any x2 x4 W HS2.out hz4 HG2.out HG4.out)
              rw [HX2.out, HX4.out] at HVC0
              have hnc := number_cases ((s.data.toList.take e).drop b) ((s.data.toList.take k).drop (e + 1))
              clear hz4 hx4z
              rcases hnc with ⟨z, e1, e2⟩ | ⟨d, e1, e2, hd⟩
              · rw [e1] at HVC0
                have HR : Hid (restv s.data.toList b = 10000000000000) := by show _ = _; rw [HRV.out, e2]
                have HVC := HVC0
                clear e1 e2 HRV hn hbe hke hnm hor
                by_cases hbe' : (b : Int) < (e : Int)
                · go_wp2_with (first
                    | (go_at_call 192; (with_reducible refine (HD1.out _).mono ?_); rintro e w2 ⟨rfl, rfl⟩)
                    | (go_at_call 192; (with_reducible refine (HD3.out _).mono ?_); rintro e w2 ⟨rfl, rfl⟩)
                    | (go_at_call 193; (with_reducible refine (HVC.out _).mono ?_); rintro e w2 ⟨rfl, rfl⟩))
                  all_goals (go_ret2; exact ⟨_, by rw [HN.out, HR.out]; rfl, rfl⟩)
                · have hek := HOR.out hbe'
                  go_wp2_with (first
                    | (go_at_call 192; (with_reducible refine (HD1.out _).mono ?_); rintro e w2 ⟨rfl, rfl⟩)
                    | (go_at_call 192; (with_reducible refine (HD3.out _).mono ?_); rintro e w2 ⟨rfl, rfl⟩)
                    | (go_at_call 193; (with_reducible refine (HVC.out _).mono ?_); rintro e w2 ⟨rfl, rfl⟩))
                  all_goals (go_ret2; exact ⟨_, by rw [HN.out, HR.out]; rfl, rfl⟩)
              · rw [e1] at HVC0
                have HR : Hid (restv s.data.toList b = d) := by show _ = _; rw [HRV.out, e2]
                have HVC := HVC0
                have hd' : (d : Int) ≤ 10000000000000 := by omega
                clear e1 e2 HRV hn hbe hke hnm hor hd
                by_cases hbe' : (b : Int) < (e : Int)
                · go_wp2_with (first
                    | (go_at_call 192; (with_reducible refine (HD1.out _).mono ?_); rintro e w2 ⟨rfl, rfl⟩)
                    | (go_at_call 192; (with_reducible refine (HD3.out _).mono ?_); rintro e w2 ⟨rfl, rfl⟩)
                    | (go_at_call 193; (with_reducible refine (HVC.out _).mono ?_); rintro e w2 ⟨rfl, rfl⟩))
                  all_goals (go_ret2; exact ⟨_, by rw [HN.out, HR.out]; rfl, rfl⟩)
                · have hek := HOR.out hbe'
                  go_wp2_with (first
                    | (go_at_call 192; (with_reducible refine (HD1.out _).mono ?_); rintro e w2 ⟨rfl, rfl⟩)
                    | (go_at_call 192; (with_reducible refine (HD3.out _).mono ?_); rintro e w2 ⟨rfl, rfl⟩)
                    | (go_at_call 193; (with_reducible refine (HVC.out _).mono ?_); rintro e w2 ⟨rfl, rfl⟩))
                  all_goals (go_ret2; exact ⟨_, by rw [HN.out, HR.out]; rfl, rfl⟩)
        · have HP : Hid (s.data.toList[e]? ≠ some 46) := by
            show _ ≠ _
            intro hh
            have hel : e < s.size := by rw [← hss]; exact (List.getElem?_eq_some_iff.1 hh).1
            exact hp ⟨hel, (at_nat s e hel 46).1 hh⟩
          have hr1 : ∀ h : e < s.size, ((s[e].toNat : Int) == 46) = false := fun h => by
            have : s[e].toNat ≠ 46 := fun hh => hp ⟨h, hh⟩
            simp; omega
          have HR1 := Lib.hid hr1
          clear hp hr1
          by_cases heb : e = b
          · obtain rfl := heb
            have HR : Hid (restv s.data.toList e = 0) := restv_zero HE.out HP.out
            clear hn hbe
            by_cases hel : e < s.size
            · have r1 := HR1.out hel
              go_wp2_with (go_at_call 192; (with_reducible refine (HD1.out _).mono ?_); rintro e w2 ⟨rfl, rfl⟩)
              all_goals (go_ret2; exact ⟨_, by rw [HN.out, HR.out]; rfl, rfl⟩)
            · have r1 : ¬ (e : Int) < (s.size : Int) := by omega
              go_wp2_with (go_at_call 192; (with_reducible refine (HD1.out _).mono ?_); rintro e w2 ⟨rfl, rfl⟩)
              all_goals (go_ret2; exact ⟨_, by rw [HN.out, HR.out]; rfl, rfl⟩)
          · have hn2 : ((e : Int) == (b : Int)) = false := by simp; omega
            have HVC0 := Lib.hid (fun W => number_any x2 ⟨#[]⟩ W HS2.out (by show 0 ≤ maxLen; exact Nat.zero_le _) HG2.out (by intro b hb; cases hb))
            have e0 : (⟨#[]⟩ : ByteArray).data.toList = [] := rfl
            rw [HX2.out, e0] at HVC0
            clear e0
            have HRV := Lib.hid (rest_no HE.out HP.out)
            have hnc := number_cases ((s.data.toList.take e).drop b) []
            rcases hnc with ⟨z, e1, e2⟩ | ⟨d, e1, e2, hd⟩
            · rw [e1] at HVC0
              have HR : Hid (restv s.data.toList b = 10000000000000) := by show _ = _; rw [HRV.out, e2]
              have HVC := HVC0
              clear e1 e2 HRV hn hbe heb
              by_cases hel : e < s.size
              · have r1 := HR1.out hel
                go_wp2_with (first
                  | (go_at_call 192; (with_reducible refine (HD1.out _).mono ?_); rintro e w2 ⟨rfl, rfl⟩)
                  | (go_at_call 193; (with_reducible refine (HVC.out _).mono ?_); rintro e w2 ⟨rfl, rfl⟩))
                all_goals (go_ret2; exact ⟨_, by rw [HN.out, HR.out]; rfl, rfl⟩)
              · have r1 : ¬ (e : Int) < (s.size : Int) := by omega
                go_wp2_with (first
                  | (go_at_call 192; (with_reducible refine (HD1.out _).mono ?_); rintro e w2 ⟨rfl, rfl⟩)
                  | (go_at_call 193; (with_reducible refine (HVC.out _).mono ?_); rintro e w2 ⟨rfl, rfl⟩))
                all_goals (go_ret2; exact ⟨_, by rw [HN.out, HR.out]; rfl, rfl⟩)
            · rw [e1] at HVC0
              have HR : Hid (restv s.data.toList b = d) := by show _ = _; rw [HRV.out, e2]
              have HVC := HVC0
              have hd' : (d : Int) ≤ 10000000000000 := by omega
              clear e1 e2 HRV hn hbe heb hd
              by_cases hel : e < s.size
              · have r1 := HR1.out hel
                go_wp2_with (first
                  | (go_at_call 192; (with_reducible refine (HD1.out _).mono ?_); rintro e w2 ⟨rfl, rfl⟩)
                  | (go_at_call 193; (with_reducible refine (HVC.out _).mono ?_); rintro e w2 ⟨rfl, rfl⟩))
                all_goals (go_ret2; exact ⟨_, by rw [HN.out, HR.out]; rfl, rfl⟩)
              · have r1 : ¬ (e : Int) < (s.size : Int) := by omega
                go_wp2_with (first
                  | (go_at_call 192; (with_reducible refine (HD1.out _).mono ?_); rintro e w2 ⟨rfl, rfl⟩)
                  | (go_at_call 193; (with_reducible refine (HVC.out _).mono ?_); rintro e w2 ⟨rfl, rfl⟩))
                all_goals (go_ret2; exact ⟨_, by rw [HN.out, HR.out]; rfl, rfl⟩)
      case inr.inr.inl =>
        obtain rfl : b = a := hba
        obtain ⟨q1, q2⟩ := HNB.out hlt
        have q3 : ((s[b].toNat : Int) == 45) = false := by simp; omega
        have q4 : ((s[b].toNat : Int) == 43) = false := by simp; omega
        clear hc hc2
        by_cases hp : ∃ h : e < s.size, s[e].toNat = 46
        · obtain ⟨hel, hp⟩ := hp
          have HP := Lib.hid ((at_nat s e hel 46).2 hp)
          have r1 : ((s[e].toNat : Int) == 46) = true := by simp; omega
          obtain ⟨k, hk2⟩ : ∃ k, spanEnd digit s.data.toList (e + 1) = k := ⟨_, rfl⟩
          have hks : k ≤ s.size := by rw [← hk2, ← hss]; exact span_le (by omega)
          have hke : e + 1 ≤ k := by rw [← hk2]; exact span_ge
          have hsl4 : ∀ W, (Instr.slice 9 (.string s) (some (.int .i64 ((e : Int) + 1))) (some (.int .i64 (k : Int))) none).run Tryz.prog W = .ok (.string (s.extract (e + 1) k)) W := fun W => by
            rw [show ((e : Int) + 1) = ((e + 1 : Nat) : Int) from by omega]
            exact run_slice_string W _ s .i64 .i64 _ _ Tryz.underlying9 (by omega) (by omega) (by omega)
          have HD3 : Hid (∀ W, Calls Tryz.prog 192 #[.string s, .int .i64 ((e : Int) + 1)] W fun e' w' => e' = .returned (.int .i64 (k : Nat)) ∧ W = w') := fun W => by
            have := refDigits_any s (e + 1) W hs' (by omega)
            rw [hk2] at this
            exact this
          have hx4 : (s.extract (e + 1) k).data.toList = (s.data.toList.take k).drop (e + 1) := cut_list s (e + 1) k
          have hdg : Digs (s.extract (e + 1) k).data.toList := by rw [hx4, ← hk2]; exact span_digs _ _
          have hx4z : (s.extract (e + 1) k).size = k - (e + 1) := by rw [← len_eq, hx4, List.length_drop, List.length_take, hss]; omega
          have HK := Lib.hid hk2
          have HX4 := Lib.hid hx4
          have HG4 := Lib.hid hdg
          clear hp hk2 hx4 hdg
          generalize s.extract (e + 1) k = x4 at *
          by_cases hnm : e = b ∧ k = e + 1
          · obtain ⟨rfl, rfl⟩ := hnm
            have HR : Hid (restv s.data.toList e = 0) := restv_bare HE.out HP.out HK.out
            have HD3' : Hid (∀ W, Calls Tryz.prog 192 #[.string s, .int .i64 ((e : Int) + 1)] W fun e' w' => e' = .returned (.int .i64 ((e : Int) + 1)) ∧ W = w') := HD3.out
            clear hn hbe hke hx4z
            go_wp2_with (first
              | (go_at_call 192; (with_reducible refine (HD1.out _).mono ?_); rintro e w2 ⟨rfl, rfl⟩)
              | (go_at_call 192; (with_reducible refine (HD3'.out _).mono ?_); rintro e w2 ⟨rfl, rfl⟩))
            all_goals (go_ret2; exact ⟨_, by rw [HN.out, HR.out]; rfl, rfl⟩)
          · have HRV := Lib.hid (rest_yes HE.out HP.out HK.out)
            have hkb : ((k : Int) == (b : Int)) = false := by simp; omega
            have hor : ¬ (b : Int) < (e : Int) → ((e : Int) + 1 < (k : Int)) := by omega
            have HOR := Lib.hid hor
            -- the digits behind the point, at most four of them
            by_cases h4 : 4 < x4.size
            · have h4' : (4 : Int) < (x4.size : Int) := by omega
              have hsl5 : ∀ W, (Instr.slice 9 (.string x4) none (some (.int .i64 4)) none).run Tryz.prog W = .ok (.string (x4.extract 0 4)) W := fun W => run_slice_string_h W _ x4 Tryz.underlying9 .i64 _ (by omega) (by omega)
              have hx5 : (x4.extract 0 4).data.toList = x4.data.toList.take 4 := by rw [cut_list]; rfl
              have hdg5 : Digs (x4.extract 0 4).data.toList := by rw [hx5]; intro b hb; exact HG4.out b (List.mem_of_mem_take hb)
              have hz5 : (x4.extract 0 4).size ≤ maxLen := by rw [← len_eq, hx5, List.length_take]; show _ ≤ 9223372036854775807; omega
              have HVC0 := Lib.hid (fun W => number_any x2 (x4.extract 0 4) W HS2.out hz5 HG2.out hdg5)
              rw [HX2.out, hx5, HX4.out] at HVC0
              have hfr := fracv_take ((s.data.toList.take k).drop (e + 1))
              have hnc := number_cases ((s.data.toList.take e).drop b) (((s.data.toList.take k).drop (e + 1)).take 4)
              rw [hfr] at hnc
              clear hx5 hdg5 hz5 hfr hx4z
              generalize x4.extract 0 4 = x5 at *
              rcases hnc with ⟨z, e1, e2⟩ | ⟨d, e1, e2, hd⟩
              · rw [e1] at HVC0
                have HR : Hid (restv s.data.toList b = 10000000000000) := by show _ = _; rw [HRV.out, e2]
                have HVC := HVC0
                clear e1 e2 HRV hn hbe hke hnm hor
                by_cases hbe' : (b : Int) < (e : Int)
                · go_wp2_with (first
                    | (go_at_call 192; (with_reducible refine (HD1.out _).mono ?_); rintro e w2 ⟨rfl, rfl⟩)
                    | (go_at_call 192; (with_reducible refine (HD3.out _).mono ?_); rintro e w2 ⟨rfl, rfl⟩)
                    | (go_at_call 193; (with_reducible refine (HVC.out _).mono ?_); rintro e w2 ⟨rfl, rfl⟩))
                  all_goals (go_ret2; exact ⟨_, by rw [HN.out, HR.out]; rfl, rfl⟩)
                · have hek := HOR.out hbe'
                  go_wp2_with (first
                    | (go_at_call 192; (with_reducible refine (HD1.out _).mono ?_); rintro e w2 ⟨rfl, rfl⟩)
                    | (go_at_call 192; (with_reducible refine (HD3.out _).mono ?_); rintro e w2 ⟨rfl, rfl⟩)
                    | (go_at_call 193; (with_reducible refine (HVC.out _).mono ?_); rintro e w2 ⟨rfl, rfl⟩))
                  all_goals (go_ret2; exact ⟨_, by rw [HN.out, HR.out]; rfl, rfl⟩)
              · rw [e1] at HVC0
                have HR : Hid (restv s.data.toList b = d) := by show _ = _; rw [HRV.out, e2]
                have HVC := HVC0
                have hd' : (d : Int) ≤ 10000000000000 := by omega
                clear e1 e2 HRV hn hbe hke hnm hor hd
                by_cases hbe' : (b : Int) < (e : Int)
                · go_wp2_with (first
                    | (go_at_call 192; (with_reducible refine (HD1.out _).mono ?_); rintro e w2 ⟨rfl, rfl⟩)
                    | (go_at_call 192; (with_reducible refine (HD3.out _).mono ?_); rintro e w2 ⟨rfl, rfl⟩)
                    | (go_at_call 193; (with_reducible refine (HVC.out _).mono ?_); rintro e w2 ⟨rfl, rfl⟩))
                  all_goals (go_ret2; exact ⟨_, by rw [HN.out, HR.out]; rfl, rfl⟩)
                · have hek := HOR.out hbe'
                  go_wp2_with (first
                    | (go_at_call 192; (with_reducible refine (HD1.out _).mono ?_); rintro e w2 ⟨rfl, rfl⟩)
                    | (go_at_call 192; (with_reducible refine (HD3.out _).mono ?_); rintro e w2 ⟨rfl, rfl⟩)
                    | (go_at_call 193; (with_reducible refine (HVC.out _).mono ?_); rintro e w2 ⟨rfl, rfl⟩))
                  all_goals (go_ret2; exact ⟨_, by rw [HN.out, HR.out]; rfl, rfl⟩)
            · have h4' : ¬ (4 : Int) < (x4.size : Int) := by omega
              have hz4 : x4.size ≤ maxLen := by show _ ≤ 9223372036854775807; omega
              have HVC0 := Lib.hid (fun W => number_any x2 x4 W HS2.out hz4 HG2.out HG4.out)
              rw [HX2.out, HX4.out] at HVC0
              have hnc := number_cases ((s.data.toList.take e).drop b) ((s.data.toList.take k).drop (e + 1))
              clear hz4 hx4z
              rcases hnc with ⟨z, e1, e2⟩ | ⟨d, e1, e2, hd⟩
              · rw [e1] at HVC0
                have HR : Hid (restv s.data.toList b = 10000000000000) := by show _ = _; rw [HRV.out, e2]
                have HVC := HVC0
                clear e1 e2 HRV hn hbe hke hnm hor
                by_cases hbe' : (b : Int) < (e : Int)
                · go_wp2_with (first
                    | (go_at_call 192; (with_reducible refine (HD1.out _).mono ?_); rintro e w2 ⟨rfl, rfl⟩)
                    | (go_at_call 192; (with_reducible refine (HD3.out _).mono ?_); rintro e w2 ⟨rfl, rfl⟩)
                    | (go_at_call 193; (with_reducible refine (HVC.out _).mono ?_); rintro e w2 ⟨rfl, rfl⟩))
                  all_goals (go_ret2; exact ⟨_, by rw [HN.out, HR.out]; rfl, rfl⟩)
                · have hek := HOR.out hbe'
                  go_wp2_with (first
                    | (go_at_call 192; (with_reducible refine (HD1.out _).mono ?_); rintro e w2 ⟨rfl, rfl⟩)
                    | (go_at_call 192; (with_reducible refine (HD3.out _).mono ?_); rintro e w2 ⟨rfl, rfl⟩)
                    | (go_at_call 193; (with_reducible refine (HVC.out _).mono ?_); rintro e w2 ⟨rfl, rfl⟩))
                  all_goals (go_ret2; exact ⟨_, by rw [HN.out, HR.out]; rfl, rfl⟩)
              · rw [e1] at HVC0
                have HR : Hid (restv s.data.toList b = d) := by show _ = _; rw [HRV.out, e2]
                have HVC := HVC0
                have hd' : (d : Int) ≤ 10000000000000 := by omega
                clear e1 e2 HRV hn hbe hke hnm hor hd
                by_cases hbe' : (b : Int) < (e : Int)
                · go_wp2_with (first
                    | (go_at_call 192; (with_reducible refine (HD1.out _).mono ?_); rintro e w2 ⟨rfl, rfl⟩)
                    | (go_at_call 192; (with_reducible refine (HD3.out _).mono ?_); rintro e w2 ⟨rfl, rfl⟩)
                    | (go_at_call 193; (with_reducible refine (HVC.out _).mono ?_); rintro e w2 ⟨rfl, rfl⟩))
                  all_goals (go_ret2; exact ⟨_, by rw [HN.out, HR.out]; rfl, rfl⟩)
                · have hek := HOR.out hbe'
                  go_wp2_with (first
                    | (go_at_call 192; (with_reducible refine (HD1.out _).mono ?_); rintro e w2 ⟨rfl, rfl⟩)
                    | (go_at_call 192; (with_reducible refine (HD3.out _).mono ?_); rintro e w2 ⟨rfl, rfl⟩)
                    | (go_at_call 193; (with_reducible refine (HVC.out _).mono ?_); rintro e w2 ⟨rfl, rfl⟩))
                  all_goals (go_ret2; exact ⟨_, by rw [HN.out, HR.out]; rfl, rfl⟩)
        · have HP : Hid (s.data.toList[e]? ≠ some 46) := by
            show _ ≠ _
            intro hh
            have hel : e < s.size := by rw [← hss]; exact (List.getElem?_eq_some_iff.1 hh).1
            exact hp ⟨hel, (at_nat s e hel 46).1 hh⟩
          have hr1 : ∀ h : e < s.size, ((s[e].toNat : Int) == 46) = false := fun h => by
            have : s[e].toNat ≠ 46 := fun hh => hp ⟨h, hh⟩
            simp; omega
          have HR1 := Lib.hid hr1
          clear hp hr1
          by_cases heb : e = b
          · obtain rfl := heb
            have HR : Hid (restv s.data.toList e = 0) := restv_zero HE.out HP.out
            clear hn hbe
            by_cases hel : e < s.size
            · have r1 := HR1.out hel
              go_wp2_with (go_at_call 192; (with_reducible refine (HD1.out _).mono ?_); rintro e w2 ⟨rfl, rfl⟩)
              all_goals (go_ret2; exact ⟨_, by rw [HN.out, HR.out]; rfl, rfl⟩)
            · have r1 : ¬ (e : Int) < (s.size : Int) := by omega
              go_wp2_with (go_at_call 192; (with_reducible refine (HD1.out _).mono ?_); rintro e w2 ⟨rfl, rfl⟩)
              all_goals (go_ret2; exact ⟨_, by rw [HN.out, HR.out]; rfl, rfl⟩)
          · have hn2 : ((e : Int) == (b : Int)) = false := by simp; omega
            have HVC0 := Lib.hid (fun W => number_any x2 ⟨#[]⟩ W HS2.out (by show 0 ≤ maxLen; exact Nat.zero_le _) HG2.out (by intro b hb; cases hb))
            have e0 : (⟨#[]⟩ : ByteArray).data.toList = [] := rfl
            rw [HX2.out, e0] at HVC0
            clear e0
            have HRV := Lib.hid (rest_no HE.out HP.out)
            have hnc := number_cases ((s.data.toList.take e).drop b) []
            rcases hnc with ⟨z, e1, e2⟩ | ⟨d, e1, e2, hd⟩
            · rw [e1] at HVC0
              have HR : Hid (restv s.data.toList b = 10000000000000) := by show _ = _; rw [HRV.out, e2]
              have HVC := HVC0
              clear e1 e2 HRV hn hbe heb
              by_cases hel : e < s.size
              · have r1 := HR1.out hel
                go_wp2_with (first
                  | (go_at_call 192; (with_reducible refine (HD1.out _).mono ?_); rintro e w2 ⟨rfl, rfl⟩)
                  | (go_at_call 193; (with_reducible refine (HVC.out _).mono ?_); rintro e w2 ⟨rfl, rfl⟩))
                all_goals (go_ret2; exact ⟨_, by rw [HN.out, HR.out]; rfl, rfl⟩)
              · have r1 : ¬ (e : Int) < (s.size : Int) := by omega
                go_wp2_with (first
                  | (go_at_call 192; (with_reducible refine (HD1.out _).mono ?_); rintro e w2 ⟨rfl, rfl⟩)
                  | (go_at_call 193; (with_reducible refine (HVC.out _).mono ?_); rintro e w2 ⟨rfl, rfl⟩))
                all_goals (go_ret2; exact ⟨_, by rw [HN.out, HR.out]; rfl, rfl⟩)
            · rw [e1] at HVC0
              have HR : Hid (restv s.data.toList b = d) := by show _ = _; rw [HRV.out, e2]
              have HVC := HVC0
              have hd' : (d : Int) ≤ 10000000000000 := by omega
              clear e1 e2 HRV hn hbe heb hd
              by_cases hel : e < s.size
              · have r1 := HR1.out hel
                go_wp2_with (first
                  | (go_at_call 192; (with_reducible refine (HD1.out _).mono ?_); rintro e w2 ⟨rfl, rfl⟩)
                  | (go_at_call 193; (with_reducible refine (HVC.out _).mono ?_); rintro e w2 ⟨rfl, rfl⟩))
                all_goals (go_ret2; exact ⟨_, by rw [HN.out, HR.out]; rfl, rfl⟩)
              · have r1 : ¬ (e : Int) < (s.size : Int) := by omega
                go_wp2_with (first
                  | (go_at_call 192; (with_reducible refine (HD1.out _).mono ?_); rintro e w2 ⟨rfl, rfl⟩)
                  | (go_at_call 193; (with_reducible refine (HVC.out _).mono ?_); rintro e w2 ⟨rfl, rfl⟩))
                all_goals (go_ret2; exact ⟨_, by rw [HN.out, HR.out]; rfl, rfl⟩)
      case inr.inr.inr =>
        obtain rfl : b = a := hba
        obtain rfl : e = b := by omega
        have hab : ¬ (e : Int) < (s.size : Int) := by omega
        have HR0 : Hid (restv s.data.toList e = 0) := restv_zero HE.out (by rw [at_none s (by omega)]; intro h; cases h)
        clear hn hbe hae
        go_wp2_with (go_at_call 192; (with_reducible refine (HD1.out _).mono ?_); rintro e w2 ⟨rfl, rfl⟩)
        all_goals (go_ret2; exact ⟨_, by rw [HN.out, HR0.out]; rfl, rfl⟩)
end Go.Proofs.YtkekpiillbpciaaGreatDoor.KNum
