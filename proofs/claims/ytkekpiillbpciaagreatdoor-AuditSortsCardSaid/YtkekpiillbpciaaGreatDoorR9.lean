/- KField; KExtract: merged into one text: lemmas for the walk of the law. No condition. -/
import Derived.Test.YtkekpiillbpciaaGreatDoorR5
import Derived.Test.YtkekpiillbpciaaGreatDoorShelf
import Derived.Lib.IndexLaws
/- The fields of a line: what the program's field returns. Strings of at most 65536 bytes. -/
namespace Go.Proofs.YtkekpiillbpciaaGreatDoor.KField
open Go Go.RowKit KeyMath ScanMath Strs KNum KSmall
set_option maxRecDepth 100000
/-- what field returns -/
def FPost (l : List UInt8) (n sep : Int) (w : World) (e : Ending) (w' : World) : Prop :=
  w = w' ∧ ∃ (a b : Int) (ok : Bool), e = .returned (.tuple #[.int .i64 a, .int .i64 b, .bool ok]) ∧ match (fields l sep)[n.toNat - 1]? with
    | some x => a = x.1 ∧ b = x.2 ∧ ok = true
    | none => ok = false
theorem extract_list (s : ByteArray) (a : Nat) : (s.extract a s.size).data.toList = s.data.toList.drop a := by
  obtain ⟨⟨l⟩⟩ := s
  simp [ByteArray.size]
  exact List.take_of_length_le (by simp)
theorem hit_split {l : List UInt8} {c : UInt8} {a o : Nat} (h : Lib.indexByte (l.drop a) c = (o : Int)) : a + o < l.length ∧ ∃ u, u.length = o ∧ c ∉ u ∧ l.drop a = u ++ c :: l.drop (a + o + 1) := by
  obtain ⟨h1, h2⟩ := Lib.indexByte_some h
  have hl := (List.getElem?_eq_some_iff.1 h1).1
  simp at hl
  refine ⟨by omega, (l.drop a).take o, by simp; omega, ?_, ?_⟩
  · intro hm
    obtain ⟨k, hk, hc⟩ := List.getElem_of_mem hm
    simp at hk
    refine h2 k (by omega) ?_
    rw [List.getElem_take] at hc
    rw [← hc]
    exact List.getElem?_eq_getElem _
  · have e := drop_cons h1
    rw [List.drop_drop] at e
    rw [show a + o + 1 = a + (o + 1) from by omega, ← List.drop_drop, ← (drop_cons h1)]
    exact (List.take_append_drop o _).symm
theorem none_notin {l : List UInt8} {c : UInt8} (h : Lib.indexByte l c = -1) : c ∉ l := by
  intro hm
  obtain ⟨k, hk, hc⟩ := List.getElem_of_mem hm
  exact Lib.indexByte_none h k (by rw [← hc]; exact List.getElem?_eq_getElem _)
set_option maxHeartbeats 4000000 in
theorem fieldC_any (s : ByteArray) (n : Int) (c : UInt8) (w : World) (hs : s.size ≤ 65536) (hn : 1 ≤ n) :
    Calls Tryz.prog 98 #[.string s, .int .i64 n, .int .i64 (c.toNat : Int)] w (FPost s.data.toList n (c.toNat : Int) w) := by
  have hss := len_eq s
  have hc1 := c.toNat_lt
  have hc0 : (0 : Int) ≤ (c.toNat : Int) := by omega
  have hc2 : (c.toNat : Int) ≤ 255 := by omega
  have hcc : (c.toNat : Int).toNat.toUInt8 = c := by simp
  have HIB := Lib.hid (fun t W => Tryz.strings_IndexByte t (c.toNat : Int) W)
  rw [hcc] at HIB
  have HF : Hid (fields s.data.toList (c.toNat : Int) = fieldsC c s.data.toList 0 0) := by
    show _ = _
    unfold fields
    rw [if_pos hc0]
    simp
  go_enter Tryz.func98, Tryz.ntmps98
  go_wp2
  go_loop [6, 9] (fun f i => ∃ a k : Nat, f = .int .i64 a ∧ i = .int .i64 k ∧ a ≤ s.size ∧ 1 ≤ k ∧ (k : Int) ≤ n ∧ k ≤ a + 1 ∧ Hid ((fieldsC c s.data.toList 0 0)[n.toNat - 1]? = (fieldsC c (s.data.toList.drop a) a a)[n.toNat - k]?)) (fun f _ => s.size + 1 - (intOf f).toNat)
  case atStart => exact ⟨0, 1, rfl, rfl, Nat.zero_le _, Nat.le_refl _, hn, Nat.le_refl _, rfl⟩
  case round =>
    obtain ⟨a, k, rfl, rfl, ha, hk1, hkn, hka, H⟩ := hrel
    have hsl : ∀ W, (Instr.slice 9 (.string s) (some (.int .i64 (a : Int))) none none).run Tryz.prog W = .ok (.string (s.extract a s.size)) W := fun W => run_slice_string_l W _ s Tryz.underlying9 .i64 _ (by omega) (by omega)
    have HIB2 := Lib.hid (fun W => HIB.out (s.extract a s.size) W)
    rw [extract_list] at HIB2
    have hge := Lib.indexByte_ge (s.data.toList.drop a) c
    by_cases hneg : Lib.indexByte (s.data.toList.drop a) c = -1
    · have hix := hneg
      have HX : Hid (fieldsC c (s.data.toList.drop a) a a = [(a, s.size)]) := by
        show _ = _
        rw [fieldsC_none c _ a a (none_notin hneg)]
        simp
        omega
      clear hneg hge
      by_cases hkn2 : (k : Int) = n
      · subst hkn2
        go_wp2_with (go_at_call 145; (with_reducible refine (HIB2.out _).mono ?_); rintro e w2 ⟨rfl, rfl⟩; rw [hix])
        go_ret3
        refine ⟨rfl, _, _, _, rfl, ?_⟩
        rw [HF.out, H.out, HX.out, show (k : Int).toNat - k = 0 from by omega]
        exact ⟨rfl, rfl, by simp⟩
      · have hkn3 : ((k : Int) == n) = false := by simpa using hkn2
        go_wp2_with (go_at_call 145; (with_reducible refine (HIB2.out _).mono ?_); rintro e w2 ⟨rfl, rfl⟩; rw [hix])
        go_ret3
        refine ⟨rfl, _, _, _, rfl, ?_⟩
        rw [HF.out, H.out, HX.out, List.getElem?_eq_none (by simp; omega)]
    · obtain ⟨o, hix⟩ : ∃ o : Nat, Lib.indexByte (s.data.toList.drop a) c = (o : Int) := ⟨(Lib.indexByte (s.data.toList.drop a) c).toNat, by omega⟩
      obtain ⟨hao, u, hul, hcu, hdr⟩ := hit_split hix
      have HX : Hid (fieldsC c (s.data.toList.drop a) a a = (a, a + o) :: fieldsC c (s.data.toList.drop (a + o + 1)) (a + o + 1) (a + o + 1)) := by
        show _ = _
        rw [hdr, fieldsC_hit c u _ a a hcu, hul]
      have hao' : a + o < s.size := by omega
      have ho0 : ¬ (o : Int) < 0 := by omega
      clear hneg hge hdr
      by_cases hkn2 : (k : Int) = n
      · subst hkn2
        go_wp2_with (go_at_call 145; (with_reducible refine (HIB2.out _).mono ?_); rintro e w2 ⟨rfl, rfl⟩; rw [hix])
        go_ret3
        refine ⟨rfl, _, _, _, rfl, ?_⟩
        rw [HF.out, H.out, HX.out, show (k : Int).toNat - k = 0 from by omega]
        exact ⟨rfl, by simp, rfl⟩
      · have hkn3 : ((k : Int) == n) = false := by simpa using hkn2
        go_wp2_with (go_at_call 145; (with_reducible refine (HIB2.out _).mono ?_); rintro e w2 ⟨rfl, rfl⟩; rw [hix])
        go_round
        case rel =>
          refine ⟨a + o + 1, k + 1, by go_num, by go_num, by omega, by omega, by omega, by omega, ?_⟩
          show _ = _
          rw [H.out, HX.out, show n.toNat - k = (n.toNat - (k + 1)) + 1 from by omega]
          rfl
        case measure => simp [intOf]; omega
theorem fieldsB_eq (l : List UInt8) : fields l (-1) = fromB l 0 := by
  unfold fields
  rw [if_neg (by omega)]
set_option maxHeartbeats 8000000 in
theorem fieldB_any (s : ByteArray) (n : Int) (w : World) (hs : s.size ≤ 65536) (hn : 1 ≤ n) :
    Calls Tryz.prog 98 #[.string s, .int .i64 n, .int .i64 (-1)] w (FPost s.data.toList n (-1) w) := by
  have hss := len_eq s
  have HF := Lib.hid (fieldsB_eq s.data.toList)
  have HBL := Lib.hid blank_any
  go_enter Tryz.func98, Tryz.ntmps98
  go_wp2
  go_loop [6, 11] (fun f i => ∃ a k : Nat, f = .int .i64 a ∧ i = .int .i64 k ∧ a ≤ s.size ∧ 1 ≤ k ∧ (k : Int) ≤ n ∧ k ≤ a + 1 ∧ Hid ((fromB s.data.toList 0)[n.toNat - 1]? = (fromB (s.data.toList.drop a) a)[n.toNat - k]?)) (fun f _ => s.size + 1 - (intOf f).toNat)
  case atStart => exact ⟨0, 1, rfl, rfl, Nat.zero_le _, Nat.le_refl _, hn, Nat.le_refl _, rfl⟩
  case round =>
    obtain ⟨a, k, rfl, rfl, ha, hk1, hkn, hka, H⟩ := hrel
    by_cases hlt : a < s.size
    · have hlt' : (a : Int) < (s.size : Int) := by omega
      have HX := Lib.hid (fromB_step s.data.toList a (by omega))
      have hm1 := span_more s.data.toList a (by omega)
      have hm0 := span_le (p := isBlank) (l := s.data.toList) (i := a) (by omega)
      have hm2 := span_le (p := fun b => !isBlank b) (l := s.data.toList) (i := spanEnd isBlank s.data.toList a) hm0
      generalize hB : spanEnd isBlank s.data.toList a = B at *
      generalize hE : spanEnd (fun b => !isBlank b) s.data.toList B = E at *
      replace hB := Lib.hid hB
      replace hE := Lib.hid hE
      go_wp2
      go_loop [7] (fun t => ∃ j : Nat, j ≤ s.size ∧ t = .int .i64 j ∧ Hid (spanEnd isBlank s.data.toList j = B)) (fun t => s.size - (intOf t).toNat)
      case atStart => exact ⟨a, ha, rfl, hB.out⟩
      case round =>
        obtain ⟨j, hj, rfl, HJ⟩ := hrel
        by_cases hltj : j < s.size
        · have hltj' : (j : Int) < (s.size : Int) := by omega
          have hxj := Lib.hid (at_some s hltj)
          have hbl := HBL.out s[j]
          rcases hb : isBlank s[j] with _ | _
          · rw [hb] at hbl
            have HBJ : Hid (B = j) := by show _ = _; rw [← HJ.out]; exact span_stop fun x h => by rw [hxj.out] at h; cases h; exact hb
            go_wp2_with (go_at_call 141; (with_reducible refine (hbl _).mono ?_); rintro e w2 ⟨rfl, rfl⟩)
            go_loop [7] (fun t => ∃ m : Nat, m ≤ s.size ∧ t = .int .i64 m ∧ Hid (spanEnd (fun b => !isBlank b) s.data.toList m = E)) (fun t => s.size - (intOf t).toNat)
            case atStart => exact ⟨B, by omega, by simp [← HBJ.out], hE.out⟩
            case round =>
              obtain ⟨m, hm, rfl, HM⟩ := hrel
              by_cases hltm : m < s.size
              · have hltm' : (m : Int) < (s.size : Int) := by omega
                have hxm := Lib.hid (at_some s hltm)
                have hbl := HBL.out s[m]
                rcases hb : isBlank s[m] with _ | _
                · rw [hb] at hbl
                  have H2 : Hid (spanEnd (fun b => !isBlank b) s.data.toList (m + 1) = E) := by show _ = _; rw [← HM.out, span_go hxm.out (by simp [hb])]
                  go_wp2_with (go_at_call 141; (with_reducible refine (hbl _).mono ?_); rintro e w2 ⟨rfl, rfl⟩)
                  go_round
                  case rel => exact ⟨m + 1, by omega, by go_num, H2⟩
                  case measure => simp [intOf]; omega
                · rw [hb] at hbl
                  have HE : Hid (E = m) := by show _ = _; rw [← HM.out]; exact span_stop fun x h => by rw [hxm.out] at h; cases h; simp [hb]
                  by_cases hkn2 : (k : Int) = n
                  · subst hkn2
                    go_wp2_with (go_at_call 141; (with_reducible refine (hbl _).mono ?_); rintro e w2 ⟨rfl, rfl⟩)
                    go_ret3
                    refine ⟨rfl, _, _, _, rfl, ?_⟩
                    rw [HF.out, H.out, HX.out, show (k : Int).toNat - k = 0 from by omega]
                    exact ⟨rfl, by simp [← HE.out], rfl⟩
                  · have hkn3 : ((k : Int) == n) = false := by simpa using hkn2
                    go_wp2_with (go_at_call 141; (with_reducible refine (hbl _).mono ?_); rintro e w2 ⟨rfl, rfl⟩)
                    go_round
                    case rel =>
                      refine ⟨E, k + 1, by simp [← HE.out], by go_num, by omega, by omega, by omega, by omega, ?_⟩
                      show _ = _
                      rw [H.out, HX.out, show n.toNat - k = (n.toNat - (k + 1)) + 1 from by omega]
                      rfl
                    case measure => have he := HE.out; simp [intOf]; omega
              · obtain rfl : m = s.size := by omega
                have HE : Hid (E = s.size) := by show _ = _; rw [← HM.out]; exact span_stop fun x h => by rw [at_none s hltm] at h; cases h
                by_cases hkn2 : (k : Int) = n
                · subst hkn2
                  go_wp2
                  go_ret3
                  refine ⟨rfl, _, _, _, rfl, ?_⟩
                  rw [HF.out, H.out, HX.out, show (k : Int).toNat - k = 0 from by omega]
                  exact ⟨rfl, by simp [← HE.out], rfl⟩
                · have hkn3 : ((k : Int) == n) = false := by simpa using hkn2
                  go_wp2
                  go_round
                  case rel =>
                    refine ⟨E, k + 1, by simp [← HE.out], by go_num, by omega, by omega, by omega, by omega, ?_⟩
                    show _ = _
                    rw [H.out, HX.out, show n.toNat - k = (n.toNat - (k + 1)) + 1 from by omega]
                    rfl
                  case measure => have he := HE.out; simp [intOf]; omega
          · rw [hb] at hbl
            have H2 : Hid (spanEnd isBlank s.data.toList (j + 1) = B) := by show _ = _; rw [← HJ.out, span_go hxj.out hb]
            go_wp2_with (go_at_call 141; (with_reducible refine (hbl _).mono ?_); rintro e w2 ⟨rfl, rfl⟩)
            go_round
            case rel => exact ⟨j + 1, by omega, by go_num, H2⟩
            case measure => simp [intOf]; omega
        · obtain rfl : j = s.size := by omega
          have HBJ : Hid (B = s.size) := by show _ = _; rw [← HJ.out]; exact span_stop fun x h => by rw [at_none s hltj] at h; cases h
          go_wp2
          go_loop [7] (fun t => ∃ m : Nat, m ≤ s.size ∧ t = .int .i64 m ∧ Hid (spanEnd (fun b => !isBlank b) s.data.toList m = E)) (fun t => s.size - (intOf t).toNat)
          case atStart => exact ⟨B, by omega, by simp [← HBJ.out], hE.out⟩
          case round =>
            obtain ⟨m, hm, rfl, HM⟩ := hrel
            by_cases hltm : m < s.size
            · have hltm' : (m : Int) < (s.size : Int) := by omega
              have hxm := Lib.hid (at_some s hltm)
              have hbl := HBL.out s[m]
              rcases hb : isBlank s[m] with _ | _
              · rw [hb] at hbl
                have H2 : Hid (spanEnd (fun b => !isBlank b) s.data.toList (m + 1) = E) := by show _ = _; rw [← HM.out, span_go hxm.out (by simp [hb])]
                go_wp2_with (go_at_call 141; (with_reducible refine (hbl _).mono ?_); rintro e w2 ⟨rfl, rfl⟩)
                go_round
                case rel => exact ⟨m + 1, by omega, by go_num, H2⟩
                case measure => simp [intOf]; omega
              · rw [hb] at hbl
                have HE : Hid (E = m) := by show _ = _; rw [← HM.out]; exact span_stop fun x h => by rw [hxm.out] at h; cases h; simp [hb]
                by_cases hkn2 : (k : Int) = n
                · subst hkn2
                  go_wp2_with (go_at_call 141; (with_reducible refine (hbl _).mono ?_); rintro e w2 ⟨rfl, rfl⟩)
                  go_ret3
                  refine ⟨rfl, _, _, _, rfl, ?_⟩
                  rw [HF.out, H.out, HX.out, show (k : Int).toNat - k = 0 from by omega]
                  exact ⟨rfl, by simp [← HE.out], rfl⟩
                · have hkn3 : ((k : Int) == n) = false := by simpa using hkn2
                  go_wp2_with (go_at_call 141; (with_reducible refine (hbl _).mono ?_); rintro e w2 ⟨rfl, rfl⟩)
                  go_round
                  case rel =>
                    refine ⟨E, k + 1, by simp [← HE.out], by go_num, by omega, by omega, by omega, by omega, ?_⟩
                    show _ = _
                    rw [H.out, HX.out, show n.toNat - k = (n.toNat - (k + 1)) + 1 from by omega]
                    rfl
                  case measure => have he := HE.out; simp [intOf]; omega
            · obtain rfl : m = s.size := by omega
              have HE : Hid (E = s.size) := by show _ = _; rw [← HM.out]; exact span_stop fun x h => by rw [at_none s hltm] at h; cases h
              by_cases hkn2 : (k : Int) = n
              · subst hkn2
                go_wp2
                go_ret3
                refine ⟨rfl, _, _, _, rfl, ?_⟩
                rw [HF.out, H.out, HX.out, show (k : Int).toNat - k = 0 from by omega]
                exact ⟨rfl, by simp [← HE.out], rfl⟩
              · have hkn3 : ((k : Int) == n) = false := by simpa using hkn2
                go_wp2
                go_round
                case rel =>
                  refine ⟨E, k + 1, by simp [← HE.out], by go_num, by omega, by omega, by omega, by omega, ?_⟩
                  show _ = _
                  rw [H.out, HX.out, show n.toNat - k = (n.toNat - (k + 1)) + 1 from by omega]
                  rfl
                case measure => have he := HE.out; simp [intOf]; omega
    · obtain rfl : a = s.size := by omega
      go_wp2
      go_ret3
      refine ⟨rfl, _, _, _, rfl, ?_⟩
      rw [HF.out, H.out, show s.data.toList.drop s.size = [] from List.drop_eq_nil_of_le (by omega)]
      rfl
end Go.Proofs.YtkekpiillbpciaaGreatDoor.KField

/- The part of a line that a key describes: what the program's Extract returns. Strings of at most 65536 bytes. -/
namespace Go.Proofs.YtkekpiillbpciaaGreatDoor.KField
open Go Go.RowKit KeyMath ScanMath Strs KNum KSmall
set_option maxRecDepth 100000
theorem field_any (s : ByteArray) (n sep : Int) (w : World) (hs : s.size ≤ 65536) (hn : 1 ≤ n) (h0 : -1 ≤ sep) (h1 : sep ≤ 255) :
    Calls Tryz.prog 98 #[.string s, .int .i64 n, .int .i64 sep] w (FPost s.data.toList n sep w) := by
  by_cases h : sep = -1
  · subst h
    exact fieldB_any s n w hs hn
  · obtain ⟨c, rfl⟩ : ∃ c : UInt8, sep = (c.toNat : Int) := ⟨UInt8.ofNat sep.toNat, by rw [UInt8.toNat_ofNat']; omega⟩
    exact fieldC_any s n c w hs hn
theorem piece_list (s : ByteArray) (a b : Nat) (h : b ≤ s.size) : (s.extract a b).data.toList = (s.data.toList.drop a).take (b - a) := by
  obtain ⟨⟨l⟩⟩ := s
  simp [List.drop_take]
def keyVal (k : Key) : Value := .agg #[.int .i64 k.ff, .int .i64 k.fc, .int .i64 k.tf, .int .i64 k.tc, .int .i64 k.fl]
theorem ok_parts {k : Key} (h : k.ok = true) : 1 ≤ k.ff ∧ 1 ≤ k.fc ∧ 0 ≤ k.tf ∧ 0 ≤ k.tc ∧ (k.tf = 0 → k.tc = 0) ∧ 0 ≤ k.fl ∧ k.fl ≤ 31 := of_decide_eq_true h
set_option maxHeartbeats 8000000 in
theorem extract_any (s : ByteArray) (k : Key) (sep : Int) (w : World) (hs : s.size ≤ 65536) (hk : k.ok = true) (hfit : k.fits) (h0 : -1 ≤ sep) (h1 : sep ≤ 255) :
    Calls Tryz.prog 65 #[.string s, .agg #[.int .i64 k.ff, .int .i64 k.fc, .int .i64 k.tf, .int .i64 k.tc, .int .i64 k.fl], .int .i64 sep] w fun e w' => e = .returned (.string ⟨(extract s.data.toList k sep).toArray⟩) ∧ Below w.heap.size w w' := by
  obtain ⟨q1, q2, q3, q4, q5, -, -⟩ := ok_parts hk
  have hss := len_eq s
  have HF1 := Lib.hid (fun W => field_any s k.ff sep W hs q1 h0 h1)
  have HB := Lib.hid ((Below.refl w.heap.size w).alloc (Nat.le_refl _) (.cells #[.int .i64 k.ff, .int .i64 k.fc, .int .i64 k.tf, .int .i64 k.tc, .int .i64 k.fl] 81))
  have hmx1 : max k.ff 1 = k.ff := by omega
  have hmx2 : max k.fc 1 = k.fc := by omega
  go_enter Tryz.func65, Tryz.ntmps65
  rcases hx : (fields s.data.toList sep)[k.ff.toNat - 1]? with _ | ⟨x1, x2⟩
  · have HR : Hid (extract s.data.toList k sep = []) := by show _ = _; unfold extract; rw [hx]
    go_wp2_with (go_at_call_of 98 (Value.int .i64 k.ff)
                 (with_reducible refine (HF1.out _).mono ?_)
                 rintro e w2 ⟨rfl, a1, b1, ok1, rfl, hm1⟩
                 rw [hx] at hm1
                 obtain rfl : ok1 = false := hm1)
    go_ret
    exact ⟨by rw [HR.out]; rfl, HB.out⟩
  · obtain ⟨hx12, hx2⟩ := fields_in s.data.toList sep _ (List.mem_of_getElem? hx)
    simp only at hx12 hx2
    obtain ⟨A, hA⟩ : ∃ A : Nat, A = x1 + min (k.fc.toNat - 1) (x2 - x1) := ⟨_, rfl⟩
    have hA' : (x1 : Int) + min (k.fc - 1) ((x2 : Int) - (x1 : Int)) = (A : Int) := by omega
    have HX : Hid (extract s.data.toList k sep = (s.data.toList.drop A).take (cutTo s.data.toList k sep - A)) := by show _ = _; unfold extract; rw [hx, hA]
    have hAl : A ≤ s.size := by omega
    have hfc : k.fc ≤ 9223372036854775807 := hfit.2.1.2
    have htcm : k.tc ≤ 9223372036854775807 := hfit.2.2.2.1.2
    clear hA hfit
    by_cases htf : k.tf = 0
    · have HC : Hid (cutTo s.data.toList k sep = s.size) := by show _ = _; unfold cutTo; rw [if_pos htf, hss]
      have htf' : ¬ (0 : Int) < k.tf := by omega
      clear htf
      by_cases hEA : s.size < A
      · exact absurd hEA (by omega)
      · have hEA' : ¬ (s.size : Int) < (A : Int) := by omega
        have hsl : ∀ W, (Instr.slice 9 (.string s) (some (.int .i64 (A : Int))) (some (.int .i64 (s.size : Int))) none).run Tryz.prog W = .ok (.string (s.extract A s.size)) W := fun W => run_slice_string W _ s .i64 .i64 _ _ Tryz.underlying9 (by omega) (by omega) (by omega)
        have HR : Hid (extract s.data.toList k sep = (s.extract A s.size).data.toList) := by show _ = _; rw [HX.out, HC.out, piece_list s A s.size (by omega)]
        go_wp2_with (first
            | (go_at_call_of 98 (Value.int .i64 k.ff)
               (with_reducible refine (HF1.out _).mono ?_)
               rintro e w2 ⟨rfl, a1, b1, ok1, rfl, hm1⟩
               rw [hx] at hm1
               obtain ⟨rfl, rfl, rfl⟩ := hm1)
            | (go_at_call_of 98 (Value.int .i64 k.tf)
               (with_reducible refine (HF2.out _).mono ?_)
               rintro e w3 ⟨rfl, a2, b2, ok2, rfl, hm2⟩
               skip
               obtain rfl : ok2 = false := hm2))
        go_ret
        exact ⟨by rw [HR.out]; rfl, HB.out⟩
    · have htf' : (0 : Int) < k.tf := by omega
      have HF2 := Lib.hid (fun W => field_any s k.tf sep W hs (by omega) h0 h1)
      rcases hy : (fields s.data.toList sep)[k.tf.toNat - 1]? with _ | ⟨y1, y2⟩
      · have HC : Hid (cutTo s.data.toList k sep = s.size) := by show _ = _; unfold cutTo; rw [if_neg htf, hy]; exact hss
        by_cases hEA : s.size < A
        · exact absurd hEA (by omega)
        · have hEA' : ¬ (s.size : Int) < (A : Int) := by omega
          have hsl : ∀ W, (Instr.slice 9 (.string s) (some (.int .i64 (A : Int))) (some (.int .i64 (s.size : Int))) none).run Tryz.prog W = .ok (.string (s.extract A s.size)) W := fun W => run_slice_string W _ s .i64 .i64 _ _ Tryz.underlying9 (by omega) (by omega) (by omega)
          have HR : Hid (extract s.data.toList k sep = (s.extract A s.size).data.toList) := by show _ = _; rw [HX.out, HC.out, piece_list s A s.size (by omega)]
          go_wp2_with (first
              | (go_at_call_of 98 (Value.int .i64 k.ff)
                 (with_reducible refine (HF1.out _).mono ?_)
                 rintro e w2 ⟨rfl, a1, b1, ok1, rfl, hm1⟩
                 rw [hx] at hm1
                 obtain ⟨rfl, rfl, rfl⟩ := hm1)
              | (go_at_call_of 98 (Value.int .i64 k.tf)
                 (with_reducible refine (HF2.out _).mono ?_)
                 rintro e w3 ⟨rfl, a2, b2, ok2, rfl, hm2⟩
                 rw [hy] at hm2
                 obtain rfl : ok2 = false := hm2))
          go_ret
          exact ⟨by rw [HR.out]; rfl, HB.out⟩
      · obtain ⟨hy12, hy2⟩ := fields_in s.data.toList sep _ (List.mem_of_getElem? hy)
        simp only at hy12 hy2
        by_cases htc : k.tc = 0
        · obtain ⟨E, rfl⟩ : ∃ E : Nat, E = y2 := ⟨_, rfl⟩
          have HC : Hid (cutTo s.data.toList k sep = E) := by show _ = _; unfold cutTo; rw [if_neg htf, hy]; exact if_pos htc
          have htc' : ¬ (0 : Int) < k.tc := by omega
          clear htc
          by_cases hEA : E < A
          · have hEA' : (E : Int) < (A : Int) := by omega
            have HR : Hid (extract s.data.toList k sep = []) := by show _ = _; rw [HX.out, HC.out, show E - A = 0 from by omega]; simp
            go_wp2_with (first
                | (go_at_call_of 98 (Value.int .i64 k.ff)
                   (with_reducible refine (HF1.out _).mono ?_)
                   rintro e w2 ⟨rfl, a1, b1, ok1, rfl, hm1⟩
                   rw [hx] at hm1
                   obtain ⟨rfl, rfl, rfl⟩ := hm1)
                | (go_at_call_of 98 (Value.int .i64 k.tf)
                   (with_reducible refine (HF2.out _).mono ?_)
                   rintro e w3 ⟨rfl, a2, b2, ok2, rfl, hm2⟩
                   rw [hy] at hm2
                   obtain ⟨rfl, rfl, rfl⟩ := hm2))
            go_ret
            exact ⟨by rw [HR.out]; rfl, HB.out⟩
          · have hEA' : ¬ (E : Int) < (A : Int) := by omega
            have hsl : ∀ W, (Instr.slice 9 (.string s) (some (.int .i64 (A : Int))) (some (.int .i64 (E : Int))) none).run Tryz.prog W = .ok (.string (s.extract A E)) W := fun W => run_slice_string W _ s .i64 .i64 _ _ Tryz.underlying9 (by omega) (by omega) (by omega)
            have HR : Hid (extract s.data.toList k sep = (s.extract A E).data.toList) := by show _ = _; rw [HX.out, HC.out, piece_list s A E (by omega)]
            go_wp2_with (first
                | (go_at_call_of 98 (Value.int .i64 k.ff)
                   (with_reducible refine (HF1.out _).mono ?_)
                   rintro e w2 ⟨rfl, a1, b1, ok1, rfl, hm1⟩
                   rw [hx] at hm1
                   obtain ⟨rfl, rfl, rfl⟩ := hm1)
                | (go_at_call_of 98 (Value.int .i64 k.tf)
                   (with_reducible refine (HF2.out _).mono ?_)
                   rintro e w3 ⟨rfl, a2, b2, ok2, rfl, hm2⟩
                   rw [hy] at hm2
                   obtain ⟨rfl, rfl, rfl⟩ := hm2))
            go_ret
            exact ⟨by rw [HR.out]; rfl, HB.out⟩
        · obtain ⟨E, hE⟩ : ∃ E : Nat, E = y1 + min k.tc.toNat (y2 - y1) := ⟨_, rfl⟩
          have HC : Hid (cutTo s.data.toList k sep = E) := by show _ = _; unfold cutTo; rw [if_neg htf, hy, hE]; exact if_neg htc
          have htc' : (0 : Int) < k.tc := by omega
          have hv2 : (y1 : Int) + min k.tc ((y2 : Int) - (y1 : Int)) = (E : Int) := by omega
          have hEs : E ≤ s.size := by omega
          clear hE
          by_cases hEA : E < A
          · have hEA' : (E : Int) < (A : Int) := by omega
            have HR : Hid (extract s.data.toList k sep = []) := by show _ = _; rw [HX.out, HC.out, show E - A = 0 from by omega]; simp
            go_wp2_with (first
                | (go_at_call_of 98 (Value.int .i64 k.ff)
                   (with_reducible refine (HF1.out _).mono ?_)
                   rintro e w2 ⟨rfl, a1, b1, ok1, rfl, hm1⟩
                   rw [hx] at hm1
                   obtain ⟨rfl, rfl, rfl⟩ := hm1)
                | (go_at_call_of 98 (Value.int .i64 k.tf)
                   (with_reducible refine (HF2.out _).mono ?_)
                   rintro e w3 ⟨rfl, a2, b2, ok2, rfl, hm2⟩
                   rw [hy] at hm2
                   obtain ⟨rfl, rfl, rfl⟩ := hm2))
            go_ret
            exact ⟨by rw [HR.out]; rfl, HB.out⟩
          · have hEA' : ¬ (E : Int) < (A : Int) := by omega
            have hsl : ∀ W, (Instr.slice 9 (.string s) (some (.int .i64 (A : Int))) (some (.int .i64 (E : Int))) none).run Tryz.prog W = .ok (.string (s.extract A E)) W := fun W => run_slice_string W _ s .i64 .i64 _ _ Tryz.underlying9 (by omega) (by omega) (by omega)
            have HR : Hid (extract s.data.toList k sep = (s.extract A E).data.toList) := by show _ = _; rw [HX.out, HC.out, piece_list s A E (by omega)]
            go_wp2_with (first
                | (go_at_call_of 98 (Value.int .i64 k.ff)
                   (with_reducible refine (HF1.out _).mono ?_)
                   rintro e w2 ⟨rfl, a1, b1, ok1, rfl, hm1⟩
                   rw [hx] at hm1
                   obtain ⟨rfl, rfl, rfl⟩ := hm1)
                | (go_at_call_of 98 (Value.int .i64 k.tf)
                   (with_reducible refine (HF2.out _).mono ?_)
                   rintro e w3 ⟨rfl, a2, b2, ok2, rfl, hm2⟩
                   rw [hy] at hm2
                   obtain ⟨rfl, rfl, rfl⟩ := hm2))
            go_ret
            exact ⟨by rw [HR.out]; rfl, HB.out⟩
end Go.Proofs.YtkekpiillbpciaaGreatDoor.KField
