/- KRefField; KRefExtract: merged into one text: lemmas for the walk of the law. No condition. -/
import Derived.Test.YtkekpiillbpciaaGreatDoorR5
import Derived.Test.YtkekpiillbpciaaGreatDoorR1
import Derived.Test.YtkekpiillbpciaaGreatDoorR9
import Derived.Maps.AppendAt
import Derived.Test.YtkekpiillbpciaaGreatDoorM4
import Derived.Test.YtkekpiillbpciaaGreatDoorR3
/- The fields of a line: what the reference's Fields returns. Strings of at most 65536 bytes. -/
namespace Go.Proofs.YtkekpiillbpciaaGreatDoor.KRefField
open Go Go.RowKit KeyMath ScanMath KLoc Strs KNum KSmall
set_option maxRecDepth 100000
theorem span_info : (Tryz.prog.info? 54).map (fun i => (i.zero, i.size, i.bytes)) = some (some (.agg #[.int .i64 0, .int .i64 0]), 2, 16) := by kernel_rfl
def scells (l : List (Nat × Nat)) : List Value := l.flatMap fun x => [.int .i64 (x.1 : Int), .int .i64 (x.2 : Int)]
theorem scells_snoc (l : List (Nat × Nat)) (a b : Nat) : scells (l ++ [(a, b)]) = scells l ++ [.int .i64 (a : Int), .int .i64 (b : Int)] := by simp [scells]
theorem scells_at : ∀ (l : List (Nat × Nat)) (q : Nat) (x : Nat × Nat), l[q]? = some x → (scells l)[q * 2]? = some (.int .i64 (x.1 : Int)) ∧ (scells l)[q * 2 + 1]? = some (.int .i64 (x.2 : Int))
  | [], _, _, h => by simp at h
  | y :: r, 0, x, h => by
    simp at h
    subst h
    exact ⟨rfl, rfl⟩
  | y :: r, q + 1, x, h => by
    have := scells_at r q x (by simpa using h)
    rw [show (q + 1) * 2 = q * 2 + 1 + 1 from by omega]
    exact this
/-- what Fields leaves -/
def SpPost (w : World) (l : List (Nat × Nat)) (e : Ending) (w' : World) : Prop := ∃ v, e = .returned v ∧ w'.ownsRow w.heap.size 54 2 v l.length (scells l) ∧ Below w.heap.size w w'
/-- an owned row is a slice value -/
theorem row_form {w : World} {base : Nat} {e : TypeId} {size : Nat} {v : Value} {n : Nat} {xs : List Value} (h : w.ownsRow base e size v n xs) : ∃ ao m cap, v = .slice ao m cap := by
  rcases h.2 with ⟨hv, _⟩ | ⟨g, cap, cur, hv, _⟩
  · exact ⟨_, _, _, hv⟩
  · exact ⟨_, _, _, hv⟩
theorem fieldsC_go {c : UInt8} {l : Str} {k a : Nat} {x : UInt8} (h : l[k]? = some x) (hx : x ≠ c) : fieldsC c (l.drop k) a k = fieldsC c (l.drop (k + 1)) a (k + 1) := by
  rw [drop_cons h, fieldsC, if_neg hx]
theorem fieldsC_new {c : UInt8} {l : Str} {k a : Nat} {x : UInt8} (h : l[k]? = some x) (hx : x = c) : fieldsC c (l.drop k) a k = (a, k) :: fieldsC c (l.drop (k + 1)) (k + 1) (k + 1) := by
  rw [drop_cons h, fieldsC, if_pos hx]
theorem fieldsC_end (c : UInt8) (l : Str) (a : Nat) : fieldsC c (l.drop l.length) a l.length = [(a, l.length)] := by
  rw [List.drop_length]; rfl
theorem fieldsB_go {p x : UInt8} {l : Str} {k a : Nat} (h : l[k]? = some x) (hx : (isBlank x && !isBlank p) = false) : fieldsB p (l.drop k) a k = fieldsB x (l.drop (k + 1)) a (k + 1) := by
  rw [drop_cons h, fieldsB, hx]; rfl
theorem fieldsB_new {p x : UInt8} {l : Str} {k a : Nat} (h : l[k]? = some x) (hx : (isBlank x && !isBlank p) = true) : fieldsB p (l.drop k) a k = (a, k) :: fieldsB x (l.drop (k + 1)) k (k + 1) := by
  rw [drop_cons h, fieldsB, hx]; rfl
theorem fieldsB_end (p : UInt8) (l : Str) (a : Nat) : fieldsB p (l.drop l.length) a l.length = [(a, l.length)] := by
  rw [List.drop_length]; rfl
theorem cells_two (w : World) (a b : Value) (t : TypeId) : ∀ (j : Nat) u, [a, b][j]? = some u → (w.alloc (.cells #[a, b] t)).cell? ((⟨w.heap.size, 0, none⟩ : Addr).add j) = some u := World.news_of_block (cs := #[a, b]) (t := t) (fr := (0, 0)) (heap_alloc_new w _)
set_option maxHeartbeats 4000000 in
theorem refFieldsC_any (s : ByteArray) (c : UInt8) (w : World) (hs : s.size ≤ 65536) :
    Calls Tryz.prog 105 #[.string s, .int .i64 (c.toNat : Int)] w (SpPost w (fields s.data.toList (c.toNat : Int))) := by
  obtain ⟨i0, hi, hz0, hz1, hz2⟩ := info_parts span_info
  have hss := len_eq s
  have hc1 := c.toNat_lt
  have hc0 : (0 : Int) ≤ (c.toNat : Int) := by omega
  have hc2 : (c.toNat : Int) ≤ 255 := by omega
  have HF : Hid (fields s.data.toList (c.toNat : Int) = fieldsC c s.data.toList 0 0) := by
    show _ = _
    unfold fields
    rw [if_pos hc0]
    simp
  go_enter Tryz.func105, Tryz.ntmps105
  go_wp2
  go_loopw [5, 6, 7] (fun o f i wr => ∃ (k fr : Nat) (out : List (Nat × Nat)), k ≤ s.size ∧ fr ≤ k ∧ out.length ≤ k ∧ i = .int .i64 k ∧ f = .int .i64 fr ∧ wr.ownsRow w.heap.size 54 2 o out.length (scells out) ∧ Below w.heap.size w wr ∧ Hid (fieldsC c s.data.toList 0 0 = out ++ fieldsC c (s.data.toList.drop k) fr k)) (fun _ _ i _ => s.size - (intOf i).toNat)
  case atStart => exact ⟨0, 0, [], Nat.zero_le _, Nat.le_refl _, Nat.le_refl _, rfl, rfl, ⟨rfl, .inl ⟨rfl, rfl⟩⟩, Below.refl _ _, rfl⟩
  case round =>
    obtain ⟨k, fr, out, hk, hfr, hout, rfl, rfl, hown, hb, HE⟩ := hrel
    obtain ⟨va, vn, vc, rfl⟩ := row_form hown
    have HO := Lib.hid hown
    have HB := Lib.hid hb
    have hbs := hb.size
    clear hown hb
    have n1 : out.length + 1 ≤ maxLen := by unfold maxLen; omega
    have n2 : (out.length + 1) * 16 ≤ 140737488355328 := by omega
    by_cases hlt : k < s.size
    · have hx := Lib.hid (at_some s hlt)
      have hbb : s[k].toNat < 256 := UInt8.toNat_lt _
      have hlt' : (k : Int) < (s.size : Int) := by omega
      by_cases hxc : s[k] = c
      · have HN := Lib.hid (fieldsC_new (a := fr) hx.out hxc)
        have hxc' : s[k].toNat = c.toNat := by rw [hxc]
        have hown0 := Lib.hid (show (wr.alloc (.cells #[.int .i64 fr, .int .i64 k] 54)).ownsRow w.heap.size 54 2 (.slice va vn vc) out.length (scells out) from KRefCmp.ownsRow_keep HO.out (fun k hk => Below.heap_alloc _ _ _ (KRefCmp.ownsRow_block HO.out k hk).2))
        clear hxc
        go_wp2_with (at_builtin
                     refine wpList_append_own (wr.alloc (.cells #[.int .i64 fr, .int .i64 k] 54)) rfl _ _ 55 rfl w.heap.size 54 i0 (.agg #[.int .i64 0, .int .i64 0]) 2 16 Tryz.underlying55 hi hz0 hz1 hz2 rfl (by decide) _ out.length (scells out) rfl hown0.out ⟨wr.heap.size, 0, none⟩ 1 1 [.int .i64 fr, .int .i64 k] rfl rfl (cells_two _ _ _ _) (by simp [Value.oneCell']) n1 n2 (by simp; omega) ?_
                     intro v' w2 hown' hgrow _)
        have hbl : Below w.heap.size w w2 := (HB.out.alloc hbs _).grown hgrow (by simp; omega) (fun z hz => (KRefCmp.ownsRow_block HO.out z hz).1)
        go_roundw
        case rel =>
          refine ⟨k + 1, k + 1, out ++ [(fr, k)], by omega, Nat.le_refl _, by simp; omega, by go_num, by go_num, ?_, hbl, ?_⟩
          · rw [scells_snoc, List.length_append]
            exact hown'
          · show _ = _
            rw [HE.out, HN.out, List.append_assoc]
            rfl
        case measure => simp [intOf]; omega
      · have HN := Lib.hid (fieldsC_go (a := fr) hx.out hxc)
        have hxc' : ((s[k].toNat : Int) == (c.toNat : Int)) = false := by
          have : s[k].toNat ≠ c.toNat := fun e => hxc (UInt8.toNat_inj.1 e)
          simp; omega
        clear hxc
        go_wp2
        go_roundw
        case rel =>
          refine ⟨k + 1, fr, out, by omega, by omega, by omega, by go_num, rfl, HO.out, HB.out, ?_⟩
          show _ = _
          rw [HE.out, HN.out]
        case measure => simp [intOf]; omega
    · obtain rfl : k = s.size := by omega
      have hown0 := Lib.hid (show (wr.alloc (.cells #[.int .i64 fr, .int .i64 s.size] 54)).ownsRow w.heap.size 54 2 (.slice va vn vc) out.length (scells out) from KRefCmp.ownsRow_keep HO.out (fun k hk => Below.heap_alloc _ _ _ (KRefCmp.ownsRow_block HO.out k hk).2))
      have HE2 : Hid (fields s.data.toList (c.toNat : Int) = out ++ [(fr, s.size)]) := by
        show _ = _
        rw [HF.out, HE.out]
        have := fieldsC_end c s.data.toList fr
        rw [hss] at this
        rw [this]
      go_wp2_with (at_builtin
                   refine wpList_append_own (wr.alloc (.cells #[.int .i64 fr, .int .i64 s.size] 54)) rfl _ _ 55 rfl w.heap.size 54 i0 (.agg #[.int .i64 0, .int .i64 0]) 2 16 Tryz.underlying55 hi hz0 hz1 hz2 rfl (by decide) _ out.length (scells out) rfl hown0.out ⟨wr.heap.size, 0, none⟩ 1 1 [.int .i64 fr, .int .i64 s.size] rfl rfl (cells_two _ _ _ _) (by simp [Value.oneCell']) n1 n2 (by simp; omega) ?_
                   intro v' w2 hown' hgrow _)
      go_ret
      have hbl : Below w.heap.size w w2 := (HB.out.alloc hbs _).grown hgrow (by simp; omega) (fun z hz => (KRefCmp.ownsRow_block HO.out z hz).1)
      refine ⟨v', rfl, ?_, hbl⟩
      rw [HE2.out, scells_snoc, List.length_append]
      exact hown'
set_option maxHeartbeats 4000000 in
theorem refFieldsB_any (s : ByteArray) (w : World) (hs : s.size ≤ 65536) :
    Calls Tryz.prog 105 #[.string s, .int .i64 (-1)] w (SpPost w (fields s.data.toList (-1))) := by
  obtain ⟨i0, hi, hz0, hz1, hz2⟩ := info_parts span_info
  have hss := len_eq s
  have HF := Lib.hid (KField.fieldsB_eq s.data.toList)
  have HBL := Lib.hid refBlank_any
  rcases Nat.eq_zero_or_pos s.size with h0 | h0
  · have HE : Hid (fields s.data.toList (-1) = []) := by
      show _ = _
      have e : s.data.toList = [] := List.eq_nil_of_length_eq_zero (by rw [hss]; exact h0)
      rw [HF.out, e]
      rfl
    go_enter Tryz.func105, Tryz.ntmps105
    go_wp2
    go_loopw [5, 6, 8] (fun o f i wr => o = .slice none 0 0 ∧ f = .int .i64 0 ∧ i = .int .i64 1 ∧ wr = w) (fun _ _ _ _ => 0)
    case atStart => exact ⟨rfl, rfl, rfl, rfl⟩
    case round =>
      obtain ⟨rfl, rfl, rfl, rfl⟩ := hrel
      go_wp2
      go_ret
      exact ⟨_, rfl, by rw [HE.out]; exact ⟨rfl, .inl ⟨rfl, rfl⟩⟩, Below.refl _ _⟩
  · obtain ⟨b0, r0, hl0⟩ : ∃ b r, s.data.toList = b :: r := by
      cases h : s.data.toList with
      | nil => rw [h] at hss; simp at hss; omega
      | cons b r => exact ⟨b, r, rfl⟩
    have HF0 : Hid (fields s.data.toList (-1) = fieldsB b0 (s.data.toList.drop 1) 0 1) := by
      show _ = _
      rw [HF.out, hl0]
      rfl
    have hb0 : s.data.toList[0]? = some b0 := by rw [hl0]; rfl
    have HB0 := Lib.hid hb0
    clear hl0 hb0
    go_enter Tryz.func105, Tryz.ntmps105
    go_wp2
    go_loopw [5, 6, 8] (fun o f i wr => ∃ (m fr : Nat) (p : UInt8) (out : List (Nat × Nat)), m + 1 ≤ s.size ∧ fr ≤ m + 1 ∧ out.length ≤ m + 1 ∧ i = .int .i64 ((m : Int) + 1) ∧ f = .int .i64 fr ∧ Hid (s.data.toList[m]? = some p) ∧ wr.ownsRow w.heap.size 54 2 o out.length (scells out) ∧ Below w.heap.size w wr ∧ Hid (fields s.data.toList (-1) = out ++ fieldsB p (s.data.toList.drop (m + 1)) fr (m + 1))) (fun _ _ i _ => s.size - (intOf i).toNat)
    case atStart => exact ⟨0, 0, b0, [], h0, Nat.zero_le _, Nat.zero_le _, rfl, rfl, HB0.out, ⟨rfl, .inl ⟨rfl, rfl⟩⟩, Below.refl _ _, HF0.out⟩
    case round =>
      obtain ⟨m, fr, p, out, hk, hfr, hout, rfl, rfl, HP, hown, hb, HE⟩ := hrel
      obtain ⟨va, vn, vc, rfl⟩ := row_form hown
      have HO := Lib.hid hown
      have HB := Lib.hid hb
      have hbs := hb.size
      clear hown hb
      have n1 : out.length + 1 ≤ maxLen := by unfold maxLen; omega
      have n2 : (out.length + 1) * 16 ≤ 140737488355328 := by omega
      have hm : m < s.size := by omega
      have hmm : (m : Int) < (s.size : Int) := by omega
      have hp2 : s[m] = p := by
        have := at_some s hm
        rw [HP.out] at this
        exact (Option.some.inj this).symm
      by_cases hlt : m + 1 < s.size
      · have hx := Lib.hid (at_some s hlt)
        have hlt' : (m : Int) + 1 < (s.size : Int) := by omega
        have HBX := Lib.hid (HBL.out s[m + 1])
        have HBP := Lib.hid (HBL.out p)
        have HXG := Lib.hid (fun (h : (isBlank s[m + 1] && !isBlank p) = false) => @fieldsB_go p s[m + 1] s.data.toList (m + 1) fr hx.out h)
        have HXN := Lib.hid (fun (h : (isBlank s[m + 1] && !isBlank p) = true) => @fieldsB_new p s[m + 1] s.data.toList (m + 1) fr hx.out h)
        rcases hbx : isBlank s[m + 1] with _ | _
        · have HN := Lib.hid (HXG.out (by rw [hbx]; rfl))
          rw [hbx] at HBX
          go_wp2_with (go_at_call 149; (first | (with_reducible refine (HBX.out _).mono ?_) | (with_reducible refine (HBP.out _).mono ?_)); rintro e w3 ⟨rfl, rfl⟩)
          go_roundw
          case rel =>
            refine ⟨m + 1, fr, s[m + 1], out, by omega, by omega, by omega, by go_num, rfl, ?_, HO.out, HB.out, ?_⟩
            · show _ = _
              exact hx.out
            · show _ = _
              rw [HE.out, HN.out]
          case measure => simp [intOf]; omega
        · rw [hbx] at HBX
          rcases hbp : isBlank p with _ | _
          · have HN := Lib.hid (HXN.out (by rw [hbx, hbp]; rfl))
            rw [hbp] at HBP
            have hown0 := Lib.hid (show (wr.alloc (.cells #[.int .i64 fr, .int .i64 ((m : Int) + 1)] 54)).ownsRow w.heap.size 54 2 (.slice va vn vc) out.length (scells out) from KRefCmp.ownsRow_keep HO.out (fun k hk => Below.heap_alloc _ _ _ (KRefCmp.ownsRow_block HO.out k hk).2))
            go_wp2_with (first
              | (go_at_call 149; (first | (with_reducible refine (HBX.out _).mono ?_) | (with_reducible refine (HBP.out _).mono ?_)); rintro e w3 ⟨rfl, rfl⟩)
              | (at_builtin
                 refine wpList_append_own (wr.alloc (.cells #[.int .i64 fr, .int .i64 ((m : Int) + 1)] 54)) rfl _ _ 55 rfl w.heap.size 54 i0 (.agg #[.int .i64 0, .int .i64 0]) 2 16 Tryz.underlying55 hi hz0 hz1 hz2 rfl (by decide) _ out.length (scells out) rfl hown0.out ⟨wr.heap.size, 0, none⟩ 1 1 [.int .i64 fr, .int .i64 ((m : Int) + 1)] rfl rfl (cells_two _ _ _ _) (by simp [Value.oneCell']) n1 n2 (by simp; omega) ?_
                 intro v' w2 hown' hgrow _))
            have hbl : Below w.heap.size w w2 := (HB.out.alloc hbs _).grown hgrow (by simp; omega) (fun z hz => (KRefCmp.ownsRow_block HO.out z hz).1)
            go_roundw
            case rel =>
              refine ⟨m + 1, m + 1, s[m + 1], out ++ [(fr, m + 1)], by omega, by omega, by simp; omega, by go_num, by go_num, ?_, ?_, hbl, ?_⟩
              · show _ = _
                exact hx.out
              · rw [scells_snoc, List.length_append]
                exact hown'
              · show _ = _
                rw [HE.out, HN.out, List.append_assoc]
                rfl
            case measure => simp [intOf]; omega
          · have HN := Lib.hid (HXG.out (by rw [hbx, hbp]; rfl))
            rw [hbp] at HBP
            go_wp2_with (first
              | (go_at_call 149; (first | (with_reducible refine (HBX.out _).mono ?_) | (with_reducible refine (HBP.out _).mono ?_)); rintro e w3 ⟨rfl, rfl⟩))
            go_roundw
            case rel =>
              refine ⟨m + 1, fr, s[m + 1], out, by omega, by omega, by omega, by go_num, rfl, ?_, HO.out, HB.out, ?_⟩
              · show _ = _
                exact hx.out
              · show _ = _
                rw [HE.out, HN.out]
            case measure => simp [intOf]; omega
      · have hend : m + 1 = s.data.toList.length := by omega
        have hlt' : ¬ (m : Int) + 1 < (s.size : Int) := by omega
        have hpos : (0 : Int) < (s.size : Int) := by omega
        have hown0 := Lib.hid (show (wr.alloc (.cells #[.int .i64 fr, .int .i64 s.size] 54)).ownsRow w.heap.size 54 2 (.slice va vn vc) out.length (scells out) from KRefCmp.ownsRow_keep HO.out (fun k hk => Below.heap_alloc _ _ _ (KRefCmp.ownsRow_block HO.out k hk).2))
        have HE2 : Hid (fields s.data.toList (-1) = out ++ [(fr, s.size)]) := by
          show _ = _
          rw [HE.out, hend, fieldsB_end, hss]
        clear hend
        go_wp2_with (at_builtin
                     refine wpList_append_own (wr.alloc (.cells #[.int .i64 fr, .int .i64 s.size] 54)) rfl _ _ 55 rfl w.heap.size 54 i0 (.agg #[.int .i64 0, .int .i64 0]) 2 16 Tryz.underlying55 hi hz0 hz1 hz2 rfl (by decide) _ out.length (scells out) rfl hown0.out ⟨wr.heap.size, 0, none⟩ 1 1 [.int .i64 fr, .int .i64 s.size] rfl rfl (cells_two _ _ _ _) (by simp [Value.oneCell']) n1 n2 (by simp; omega) ?_
                     intro v' w2 hown' hgrow _)
        go_ret
        have hbl : Below w.heap.size w w2 := (HB.out.alloc hbs _).grown hgrow (by simp; omega) (fun z hz => (KRefCmp.ownsRow_block HO.out z hz).1)
        refine ⟨v', rfl, ?_, hbl⟩
        rw [HE2.out, scells_snoc, List.length_append]
        exact hown'
theorem refFields_any (s : ByteArray) (sep : Int) (w : World) (hs : s.size ≤ 65536) (h0 : -1 ≤ sep) (h1 : sep ≤ 255) :
    Calls Tryz.prog 105 #[.string s, .int .i64 sep] w (SpPost w (fields s.data.toList sep)) := by
  by_cases h : sep = -1
  · subst h
    exact refFieldsB_any s w hs
  · obtain ⟨c, rfl⟩ : ∃ c : UInt8, sep = (c.toNat : Int) := ⟨UInt8.ofNat sep.toNat, by rw [UInt8.toNat_ofNat']; omega⟩
    exact refFieldsC_any s c w hs
end Go.Proofs.YtkekpiillbpciaaGreatDoor.KRefField

/- The part of a line that a key describes: what the reference's Extract returns. Strings of at most 65536 bytes. -/
namespace Go.Proofs.YtkekpiillbpciaaGreatDoor.KRefField
open Go Go.RowKit KeyMath ScanMath KLoc Strs KNum KSmall KField KKey KRefCmp
set_option maxRecDepth 100000
theorem most_q (a b : Int) (w : World) (n : Nat) : Calls Tryz.prog 106 #[.int .i64 a, .int .i64 b] (w.drewN n) fun e w'' => e = .returned (.int .i64 (max a b)) ∧ ∃ m, w'' = w.drewN m := (most_any a b _).mono fun _ _ ⟨he, hk⟩ => ⟨he, n, hk.symm⟩
theorem least_q (a b : Int) (w : World) (n : Nat) : Calls Tryz.prog 107 #[.int .i64 a, .int .i64 b] (w.drewN n) fun e w'' => e = .returned (.int .i64 (min a b)) ∧ ∃ m, w'' = w.drewN m := (least_any a b _).mono fun _ _ ⟨he, hk⟩ => ⟨he, n, hk.symm⟩
/-- a row of spans that is not empty: where it lies -/
theorem span_cells {w : World} {base : Nat} {v : Value} {l : List (Nat × Nat)} (h : w.ownsRow base 54 2 v l.length (scells l)) (hne : l ≠ []) :
    ∃ gs cs, v = .slice (some ⟨gs, 0, none⟩) l.length cs ∧ base ≤ gs ∧ gs < w.heap.size ∧ ∀ (q : Nat) x, l[q]? = some x → w.cell? ⟨gs, q * 2, none⟩ = some (.int .i64 (x.1 : Int)) ∧ w.cell? ⟨gs, q * 2 + 1, none⟩ = some (.int .i64 (x.2 : Int)) := by
  have hb := fun g => KRefCmp.ownsRow_block h g
  rcases h.2 with ⟨rfl, h0⟩ | ⟨g, cap, cur, rfl, _⟩
  · exact absurd (List.eq_nil_of_length_eq_zero h0) hne
  · have hb := hb g (by simp [Value.ownBlock])
    refine ⟨g, cap, rfl, hb.1, hb.2, fun q x hq => ?_⟩
    obtain ⟨a1, a2⟩ := scells_at l q x hq
    have e1 := h.cells (g := g) rfl _ _ a1
    have e2 := h.cells (g := g) rfl _ _ a2
    have hadd : ∀ j, (⟨g, 0, none⟩ : Addr).add j = ⟨g, j, none⟩ := fun j => by unfold Addr.add; split <;> simp_all
    rw [hadd] at e1 e2
    exact ⟨e1, e2⟩
set_option maxHeartbeats 8000000 in
theorem refExtract_any (s : ByteArray) (k : Key) (sep : Int) (w : World) (hs : s.size ≤ 65536) (hk : k.ok = true) (hfit : k.fits) (h0 : -1 ≤ sep) (h1 : sep ≤ 255) :
    Calls Tryz.prog 70 #[.string s, .agg #[.int .i64 k.ff, .int .i64 k.fc, .int .i64 k.tf, .int .i64 k.tc, .int .i64 k.fl], .int .i64 sep] w fun e w' => e = .returned (.string ⟨(extract s.data.toList k sep).toArray⟩) ∧ Below w.heap.size w w' := by
  obtain ⟨q1, q2, q3, q4, q5, -, -⟩ := ok_parts hk
  have hss := len_eq s
  have HFL := Lib.hid (fun W => refFields_any s sep W hs h0 h1)
  have HB := Lib.hid ((Below.refl w.heap.size w).alloc (Nat.le_refl _) (.cells #[.int .i64 k.ff, .int .i64 k.fc, .int .i64 k.tf, .int .i64 k.tc, .int .i64 k.fl] 81))
  have hmx1 : max k.ff 1 = k.ff := by omega
  have hmx2 : max k.fc 1 = k.fc := by omega
  have HM := Lib.hid most_q
  have HL := Lib.hid least_q
  have hfl := fields_length s.data.toList sep
  have hfi := fields_in s.data.toList sep
  have HX0 : Hid (extract s.data.toList k sep = match (fields s.data.toList sep)[k.ff.toNat - 1]? with | none => [] | some x => (s.data.toList.drop (x.1 + min (k.fc.toNat - 1) (x.2 - x.1))).take (cutTo s.data.toList k sep - (x.1 + min (k.fc.toNat - 1) (x.2 - x.1)))) := rfl
  have HC0 : Hid (cutTo s.data.toList k sep = if k.tf = 0 then s.data.toList.length else match (fields s.data.toList sep)[k.tf.toNat - 1]? with | none => s.data.toList.length | some y => if k.tc = 0 then y.2 else y.1 + min k.tc.toNat (y.2 - y.1)) := rfl
  generalize extract s.data.toList k sep = R at *
  generalize cutTo s.data.toList k sep = T at *
  generalize fields s.data.toList sep = fs at *
  have hff : k.ff ≤ 9223372036854775807 := hfit.1.2
  have hfc : k.fc ≤ 9223372036854775807 := hfit.2.1.2
  have htfm : k.tf ≤ 9223372036854775807 := hfit.2.2.1.2
  have htcm : k.tc ≤ 9223372036854775807 := hfit.2.2.2.1.2
  clear hfit hk
  obtain ⟨ff, fc, tf, tc, kfl⟩ := k
  simp only at *
  by_cases hlen : (fs.length : Int) < ff
  · have hnone : fs[ff.toNat - 1]? = none := List.getElem?_eq_none (by omega)
    have HR : Hid (R = []) := by show _ = _; rw [HX0.out, hnone]
    clear hnone hfi HX0 HC0
    go_enter Tryz.func70, Tryz.ntmps70
    go_wp2_with (go_at_call 105; (with_reducible refine (HFL.out _).mono ?_); rintro e w2 ⟨fv, rfl, hrow2, hbw2⟩; have hkx : KBox w2 w.heap.size ⟨ff, fc, _, _, kfl⟩ := (hbw2.block _ (by simp)).trans (heap_alloc_new w _); obtain ⟨k0, k1, k2, k3, k4⟩ := hkx.cells; have hkl := hkx.lt; clear hkx; obtain ⟨va, vc, rfl⟩ := (Own.Row.of hrow2).form)
    go_quiet (first | (go_at_call 106; with_reducible exact HM.out _ _ _ _))
    go_wp2
    go_ret
    exact ⟨by rw [HR.out]; rfl, Base.below_drewN (below_step HB.out hbw2) _⟩
  · have hq : ff.toNat - 1 < fs.length := by omega
    obtain ⟨x, hx⟩ : ∃ x, fs[ff.toNat - 1]? = some x := ⟨_, List.getElem?_eq_getElem hq⟩
    obtain ⟨hx12, hx2⟩ := hfi x (List.mem_of_getElem? hx)
    obtain ⟨x1, x2⟩ := x
    simp only at hx12 hx2
    obtain ⟨A, hA⟩ : ∃ A : Nat, A = x1 + min (fc.toNat - 1) (x2 - x1) := ⟨_, rfl⟩
    have hA' : (x1 : Int) + min (fc - 1) ((x2 : Int) - (x1 : Int)) = (A : Int) := by omega
    have HX : Hid (R = (s.data.toList.drop A).take (T - A)) := by show _ = _; rw [HX0.out, hx, hA]
    have hAl : A ≤ s.size := by omega
    have hfs : fs ≠ [] := by intro e; subst e; simp at hq
    have hlen' : ff ≤ (fs.length : Int) := by omega
    have HXE := Lib.hid hx
    have HNE := Lib.hid hfs
    have hqi : ff - 1 = ((ff.toNat - 1 : Nat) : Int) := by omega
    obtain ⟨Q, hQ⟩ : ∃ Q : Nat, Q = ff.toNat - 1 := ⟨_, rfl⟩
    rw [← hQ] at hqi hq HXE
    have hQl : (Q : Int) < (fs.length : Int) := by omega
    clear hA HX0 hx hfs hQ
    have main : (∃ E : Nat, E ≤ s.size ∧ T = E ∧ (tf = 0 ∨ (fs.length : Int) < tf) ∧ E = s.size) ∨ (∃ y : Nat × Nat, 0 < tf ∧ tf ≤ (fs.length : Int) ∧ fs[tf.toNat - 1]? = some y ∧ y.1 ≤ y.2 ∧ y.2 ≤ s.size ∧ tc = 0 ∧ T = y.2) ∨ (∃ y : Nat × Nat, 0 < tf ∧ tf ≤ (fs.length : Int) ∧ fs[tf.toNat - 1]? = some y ∧ y.1 ≤ y.2 ∧ y.2 ≤ s.size ∧ 0 < tc ∧ T = y.1 + min tc.toNat (y.2 - y.1)) := by
      have hT := HC0.out
      by_cases h1 : tf = 0
      · rw [if_pos h1] at hT
        exact .inl ⟨T, by omega, rfl, .inl h1, by omega⟩
      · rw [if_neg h1] at hT
        by_cases h2 : (fs.length : Int) < tf
        · rw [List.getElem?_eq_none (by omega)] at hT
          exact .inl ⟨T, by simp only at hT; omega, rfl, .inr h2, by simp only at hT; omega⟩
        · have hl : tf.toNat - 1 < fs.length := by omega
          have hy : fs[tf.toNat - 1]? = some fs[tf.toNat - 1] := List.getElem?_eq_getElem hl
          obtain ⟨r1, r2⟩ := hfi _ (List.mem_of_getElem? hy)
          rw [hy] at hT
          simp only at hT
          by_cases h3 : tc = 0
          · rw [if_pos h3] at hT
            exact .inr (.inl ⟨_, by omega, by omega, hy, r1, by omega, h3, hT⟩)
          · rw [if_neg h3] at hT
            exact .inr (.inr ⟨_, by omega, by omega, hy, r1, by omega, by omega, hT⟩)
    clear hfi HC0
    rcases main with ⟨E, hEs, hTE, htf, hE0⟩ | ⟨y, htf, htf2, hy, hy12, hy2, htc, hTE⟩ | ⟨y, htf, htf2, hy, hy12, hy2, htc, hTE⟩
    · subst hE0
      subst hTE
      rcases htf with htf | htf
      · have htc0 := q5 htf
        subst htc0
        subst htf
        by_cases hEA : s.size ≤ A
        · have hEA' : (s.size : Int) ≤ (A : Int) := by omega
          have HR : Hid (R = []) := by show _ = _; rw [HX.out, show s.size - A = 0 from by omega]; simp
          go_enter Tryz.func70, Tryz.ntmps70
          go_wp2_with (go_at_call 105; (with_reducible refine (HFL.out _).mono ?_); rintro e w2 ⟨fv, rfl, hrow2, hbw2⟩; have hkx : KBox w2 w.heap.size ⟨ff, fc, _, _, kfl⟩ := (hbw2.block _ (by simp)).trans (heap_alloc_new w _); obtain ⟨k0, k1, k2, k3, k4⟩ := hkx.cells; have hkl := hkx.lt; clear hkx; obtain ⟨gs, cs, rfl, hgb, hgl, hsc⟩ := span_cells hrow2 HNE.out; obtain ⟨x1c, x2c⟩ := hsc Q _ HXE.out; have HSC := Lib.hid hsc; clear hsc; simp only at x1c x2c; have hszw : w.heap.size < w2.heap.size := (by have := hbw2.size; simp at this; omega))
          go_quiet (first | (go_at_call 106; with_reducible exact HM.out _ _ _ _))
          have HB3 : Hid (Below w.heap.size w (w2.drewN nq)) := Base.below_drewN (below_step HB.out hbw2) _
          generalize hw3 : w2.drewN nq = w3 at HB3
          have m2 : w3.cell? ⟨w.heap.size, 2, none⟩ = some (.int .i64 0) := by rw [← hw3]; exact k2
          have m3 : w3.cell? ⟨w.heap.size, 3, none⟩ = some (.int .i64 0) := by rw [← hw3]; exact k3
          have n1 : w3.cell? ⟨gs, Q * 2, none⟩ = some (.int .i64 (x1 : Int)) := by rw [← hw3]; exact x1c
          have n2 : w3.cell? ⟨gs, Q * 2 + 1, none⟩ = some (.int .i64 (x2 : Int)) := by rw [← hw3]; exact x2c
          have l1 : w.heap.size < w3.heap.size := by rw [← hw3]; exact hkl
          have l2 : gs < w3.heap.size := by rw [← hw3]; exact hgl
          clear hw3 k0 k1 k2 k3 k4 x1c x2c hkl hgl hszw hrow2 hbw2
          go_wp2
          go_quiet (first | (go_at_call 107; with_reducible exact HL.out _ _ _ _))
          go_wp2
          go_ret
          exact ⟨by rw [HR.out]; rfl, Base.below_drewN (HB3.out.alloc HB3.out.size _) _⟩
        · have hEA' : ¬ (s.size : Int) ≤ (A : Int) := by omega
          have hsl : ∀ W, (Instr.slice 9 (.string s) (some (.int .i64 (A : Int))) (some (.int .i64 (s.size : Int))) none).run Tryz.prog W = .ok (.string (s.extract A s.size)) W := fun W => run_slice_string W _ s .i64 .i64 _ _ Tryz.underlying9 (by omega) (by omega) (by omega)
          have HR : Hid (R = (s.extract A s.size).data.toList) := by show _ = _; rw [HX.out, piece_list s A s.size (by omega)]
          go_enter Tryz.func70, Tryz.ntmps70
          go_wp2_with (go_at_call 105; (with_reducible refine (HFL.out _).mono ?_); rintro e w2 ⟨fv, rfl, hrow2, hbw2⟩; have hkx : KBox w2 w.heap.size ⟨ff, fc, _, _, kfl⟩ := (hbw2.block _ (by simp)).trans (heap_alloc_new w _); obtain ⟨k0, k1, k2, k3, k4⟩ := hkx.cells; have hkl := hkx.lt; clear hkx; obtain ⟨gs, cs, rfl, hgb, hgl, hsc⟩ := span_cells hrow2 HNE.out; obtain ⟨x1c, x2c⟩ := hsc Q _ HXE.out; have HSC := Lib.hid hsc; clear hsc; simp only at x1c x2c; have hszw : w.heap.size < w2.heap.size := (by have := hbw2.size; simp at this; omega))
          go_quiet (first | (go_at_call 106; with_reducible exact HM.out _ _ _ _))
          have HB3 : Hid (Below w.heap.size w (w2.drewN nq)) := Base.below_drewN (below_step HB.out hbw2) _
          generalize hw3 : w2.drewN nq = w3 at HB3
          have m2 : w3.cell? ⟨w.heap.size, 2, none⟩ = some (.int .i64 0) := by rw [← hw3]; exact k2
          have m3 : w3.cell? ⟨w.heap.size, 3, none⟩ = some (.int .i64 0) := by rw [← hw3]; exact k3
          have n1 : w3.cell? ⟨gs, Q * 2, none⟩ = some (.int .i64 (x1 : Int)) := by rw [← hw3]; exact x1c
          have n2 : w3.cell? ⟨gs, Q * 2 + 1, none⟩ = some (.int .i64 (x2 : Int)) := by rw [← hw3]; exact x2c
          have l1 : w.heap.size < w3.heap.size := by rw [← hw3]; exact hkl
          have l2 : gs < w3.heap.size := by rw [← hw3]; exact hgl
          clear hw3 k0 k1 k2 k3 k4 x1c x2c hkl hgl hszw hrow2 hbw2
          go_wp2
          go_quiet (first | (go_at_call 107; with_reducible exact HL.out _ _ _ _))
          go_wp2
          go_ret
          exact ⟨by rw [HR.out]; rfl, Base.below_drewN (HB3.out.alloc HB3.out.size _) _⟩
      · have htf0 : (0 : Int) < tf := by omega
        have htf1 : ¬ tf ≤ (fs.length : Int) := by omega
        by_cases hEA : s.size ≤ A
        · have hEA' : (s.size : Int) ≤ (A : Int) := by omega
          have HR : Hid (R = []) := by show _ = _; rw [HX.out, show s.size - A = 0 from by omega]; simp
          go_enter Tryz.func70, Tryz.ntmps70
          go_wp2_with (go_at_call 105; (with_reducible refine (HFL.out _).mono ?_); rintro e w2 ⟨fv, rfl, hrow2, hbw2⟩; have hkx : KBox w2 w.heap.size ⟨ff, fc, _, _, kfl⟩ := (hbw2.block _ (by simp)).trans (heap_alloc_new w _); obtain ⟨k0, k1, k2, k3, k4⟩ := hkx.cells; have hkl := hkx.lt; clear hkx; obtain ⟨gs, cs, rfl, hgb, hgl, hsc⟩ := span_cells hrow2 HNE.out; obtain ⟨x1c, x2c⟩ := hsc Q _ HXE.out; have HSC := Lib.hid hsc; clear hsc; simp only at x1c x2c; have hszw : w.heap.size < w2.heap.size := (by have := hbw2.size; simp at this; omega))
          go_quiet (first | (go_at_call 106; with_reducible exact HM.out _ _ _ _))
          have HB3 : Hid (Below w.heap.size w (w2.drewN nq)) := Base.below_drewN (below_step HB.out hbw2) _
          generalize hw3 : w2.drewN nq = w3 at HB3
          have m2 : w3.cell? ⟨w.heap.size, 2, none⟩ = some (.int .i64 tf) := by rw [← hw3]; exact k2
          have m3 : w3.cell? ⟨w.heap.size, 3, none⟩ = some (.int .i64 tc) := by rw [← hw3]; exact k3
          have n1 : w3.cell? ⟨gs, Q * 2, none⟩ = some (.int .i64 (x1 : Int)) := by rw [← hw3]; exact x1c
          have n2 : w3.cell? ⟨gs, Q * 2 + 1, none⟩ = some (.int .i64 (x2 : Int)) := by rw [← hw3]; exact x2c
          have l1 : w.heap.size < w3.heap.size := by rw [← hw3]; exact hkl
          have l2 : gs < w3.heap.size := by rw [← hw3]; exact hgl
          clear hw3 k0 k1 k2 k3 k4 x1c x2c hkl hgl hszw hrow2 hbw2
          go_wp2
          go_quiet (first | (go_at_call 107; with_reducible exact HL.out _ _ _ _))
          go_wp2
          go_ret
          exact ⟨by rw [HR.out]; rfl, Base.below_drewN (HB3.out.alloc HB3.out.size _) _⟩
        · have hEA' : ¬ (s.size : Int) ≤ (A : Int) := by omega
          have hsl : ∀ W, (Instr.slice 9 (.string s) (some (.int .i64 (A : Int))) (some (.int .i64 (s.size : Int))) none).run Tryz.prog W = .ok (.string (s.extract A s.size)) W := fun W => run_slice_string W _ s .i64 .i64 _ _ Tryz.underlying9 (by omega) (by omega) (by omega)
          have HR : Hid (R = (s.extract A s.size).data.toList) := by show _ = _; rw [HX.out, piece_list s A s.size (by omega)]
          go_enter Tryz.func70, Tryz.ntmps70
          go_wp2_with (go_at_call 105; (with_reducible refine (HFL.out _).mono ?_); rintro e w2 ⟨fv, rfl, hrow2, hbw2⟩; have hkx : KBox w2 w.heap.size ⟨ff, fc, _, _, kfl⟩ := (hbw2.block _ (by simp)).trans (heap_alloc_new w _); obtain ⟨k0, k1, k2, k3, k4⟩ := hkx.cells; have hkl := hkx.lt; clear hkx; obtain ⟨gs, cs, rfl, hgb, hgl, hsc⟩ := span_cells hrow2 HNE.out; obtain ⟨x1c, x2c⟩ := hsc Q _ HXE.out; have HSC := Lib.hid hsc; clear hsc; simp only at x1c x2c; have hszw : w.heap.size < w2.heap.size := (by have := hbw2.size; simp at this; omega))
          go_quiet (first | (go_at_call 106; with_reducible exact HM.out _ _ _ _))
          have HB3 : Hid (Below w.heap.size w (w2.drewN nq)) := Base.below_drewN (below_step HB.out hbw2) _
          generalize hw3 : w2.drewN nq = w3 at HB3
          have m2 : w3.cell? ⟨w.heap.size, 2, none⟩ = some (.int .i64 tf) := by rw [← hw3]; exact k2
          have m3 : w3.cell? ⟨w.heap.size, 3, none⟩ = some (.int .i64 tc) := by rw [← hw3]; exact k3
          have n1 : w3.cell? ⟨gs, Q * 2, none⟩ = some (.int .i64 (x1 : Int)) := by rw [← hw3]; exact x1c
          have n2 : w3.cell? ⟨gs, Q * 2 + 1, none⟩ = some (.int .i64 (x2 : Int)) := by rw [← hw3]; exact x2c
          have l1 : w.heap.size < w3.heap.size := by rw [← hw3]; exact hkl
          have l2 : gs < w3.heap.size := by rw [← hw3]; exact hgl
          clear hw3 k0 k1 k2 k3 k4 x1c x2c hkl hgl hszw hrow2 hbw2
          go_wp2
          go_quiet (first | (go_at_call 107; with_reducible exact HL.out _ _ _ _))
          go_wp2
          go_ret
          exact ⟨by rw [HR.out]; rfl, Base.below_drewN (HB3.out.alloc HB3.out.size _) _⟩
    · obtain ⟨y1, y2⟩ := y
      simp only at hy12 hy2 hTE
      have hTE2 := hTE.symm
      subst hTE2
      have HY := Lib.hid hy
      obtain ⟨q, hq⟩ : ∃ q : Nat, q = tf.toNat - 1 := ⟨_, rfl⟩
      rw [← hq] at HY
      have htq : tf - 1 = (q : Int) := by omega
      have hql : q < fs.length := by omega
      clear hq hy
      subst htc
      by_cases hEA : y2 ≤ A
      · have hEA' : (y2 : Int) ≤ (A : Int) := by omega
        have HR : Hid (R = []) := by show _ = _; rw [HX.out, show y2 - A = 0 from by omega]; simp
        go_enter Tryz.func70, Tryz.ntmps70
        go_wp2_with (go_at_call 105; (with_reducible refine (HFL.out _).mono ?_); rintro e w2 ⟨fv, rfl, hrow2, hbw2⟩; have hkx : KBox w2 w.heap.size ⟨ff, fc, _, _, kfl⟩ := (hbw2.block _ (by simp)).trans (heap_alloc_new w _); obtain ⟨k0, k1, k2, k3, k4⟩ := hkx.cells; have hkl := hkx.lt; clear hkx; obtain ⟨gs, cs, rfl, hgb, hgl, hsc⟩ := span_cells hrow2 HNE.out; obtain ⟨x1c, x2c⟩ := hsc Q _ HXE.out; have HSC := Lib.hid hsc; clear hsc; simp only at x1c x2c; have hszw : w.heap.size < w2.heap.size := (by have := hbw2.size; simp at this; omega); obtain ⟨y1c, y2c⟩ := HSC.out q _ HY.out; simp only at y1c y2c)
        go_quiet (first | (go_at_call 106; with_reducible exact HM.out _ _ _ _))
        have HB3 : Hid (Below w.heap.size w (w2.drewN nq)) := Base.below_drewN (below_step HB.out hbw2) _
        generalize hw3 : w2.drewN nq = w3 at HB3
        have m2 : w3.cell? ⟨w.heap.size, 2, none⟩ = some (.int .i64 tf) := by rw [← hw3]; exact k2
        have m3 : w3.cell? ⟨w.heap.size, 3, none⟩ = some (.int .i64 0) := by rw [← hw3]; exact k3
        have n1 : w3.cell? ⟨gs, Q * 2, none⟩ = some (.int .i64 (x1 : Int)) := by rw [← hw3]; exact x1c
        have n2 : w3.cell? ⟨gs, Q * 2 + 1, none⟩ = some (.int .i64 (x2 : Int)) := by rw [← hw3]; exact x2c
        have l1 : w.heap.size < w3.heap.size := by rw [← hw3]; exact hkl
        have l2 : gs < w3.heap.size := by rw [← hw3]; exact hgl
        have o1 : w3.cell? ⟨gs, q * 2, none⟩ = some (.int .i64 (y1 : Int)) := by rw [← hw3]; exact y1c
        have o2 : w3.cell? ⟨gs, q * 2 + 1, none⟩ = some (.int .i64 (y2 : Int)) := by rw [← hw3]; exact y2c
        clear hw3 k0 k1 k2 k3 k4 x1c x2c hkl hgl hszw hrow2 hbw2 y1c y2c
        go_wp2
        go_quiet (first | (go_at_call 107; with_reducible exact HL.out _ _ _ _))
        have HB4 : Hid (Below w.heap.size w ((w3.alloc (.cells #[.int .i64 (x1 : Int), .int .i64 (x2 : Int)] 54)).drewN nq)) := Base.below_drewN (HB3.out.alloc HB3.out.size _) _
        generalize hw4 : (w3.alloc (.cells #[.int .i64 (x1 : Int), .int .i64 (x2 : Int)] 54)).drewN nq = w4 at HB4
        have u2 : w4.cell? ⟨w.heap.size, 2, none⟩ = some (.int .i64 tf) := by rw [← hw4]; exact (World.cell?_of_block (Below.heap_alloc _ _ _ l1)).trans m2
        have u3 : w4.cell? ⟨w.heap.size, 3, none⟩ = some (.int .i64 0) := by rw [← hw4]; exact (World.cell?_of_block (Below.heap_alloc _ _ _ l1)).trans m3
        have u4 : w4.cell? ⟨gs, q * 2, none⟩ = some (.int .i64 (y1 : Int)) := by rw [← hw4]; exact (World.cell?_of_block (Below.heap_alloc _ _ _ l2)).trans o1
        have u5 : w4.cell? ⟨gs, q * 2 + 1, none⟩ = some (.int .i64 (y2 : Int)) := by rw [← hw4]; exact (World.cell?_of_block (Below.heap_alloc _ _ _ l2)).trans o2
        have l3 : w.heap.size < w4.heap.size := by rw [← hw4]; simp; omega
        have l4 : gs < w4.heap.size := by rw [← hw4]; simp; omega
        clear hw4 m2 m3 n1 n2 o1 o2 l1 l2
        go_wp2
        go_ret
        exact ⟨by rw [HR.out]; rfl, HB4.out.alloc HB4.out.size _⟩
      · have hEA' : ¬ (y2 : Int) ≤ (A : Int) := by omega
        have hsl : ∀ W, (Instr.slice 9 (.string s) (some (.int .i64 (A : Int))) (some (.int .i64 (y2 : Int))) none).run Tryz.prog W = .ok (.string (s.extract A y2)) W := fun W => run_slice_string W _ s .i64 .i64 _ _ Tryz.underlying9 (by omega) (by omega) (by omega)
        have HR : Hid (R = (s.extract A y2).data.toList) := by show _ = _; rw [HX.out, piece_list s A y2 (by omega)]
        go_enter Tryz.func70, Tryz.ntmps70
        go_wp2_with (go_at_call 105; (with_reducible refine (HFL.out _).mono ?_); rintro e w2 ⟨fv, rfl, hrow2, hbw2⟩; have hkx : KBox w2 w.heap.size ⟨ff, fc, _, _, kfl⟩ := (hbw2.block _ (by simp)).trans (heap_alloc_new w _); obtain ⟨k0, k1, k2, k3, k4⟩ := hkx.cells; have hkl := hkx.lt; clear hkx; obtain ⟨gs, cs, rfl, hgb, hgl, hsc⟩ := span_cells hrow2 HNE.out; obtain ⟨x1c, x2c⟩ := hsc Q _ HXE.out; have HSC := Lib.hid hsc; clear hsc; simp only at x1c x2c; have hszw : w.heap.size < w2.heap.size := (by have := hbw2.size; simp at this; omega); obtain ⟨y1c, y2c⟩ := HSC.out q _ HY.out; simp only at y1c y2c)
        go_quiet (first | (go_at_call 106; with_reducible exact HM.out _ _ _ _))
        have HB3 : Hid (Below w.heap.size w (w2.drewN nq)) := Base.below_drewN (below_step HB.out hbw2) _
        generalize hw3 : w2.drewN nq = w3 at HB3
        have m2 : w3.cell? ⟨w.heap.size, 2, none⟩ = some (.int .i64 tf) := by rw [← hw3]; exact k2
        have m3 : w3.cell? ⟨w.heap.size, 3, none⟩ = some (.int .i64 0) := by rw [← hw3]; exact k3
        have n1 : w3.cell? ⟨gs, Q * 2, none⟩ = some (.int .i64 (x1 : Int)) := by rw [← hw3]; exact x1c
        have n2 : w3.cell? ⟨gs, Q * 2 + 1, none⟩ = some (.int .i64 (x2 : Int)) := by rw [← hw3]; exact x2c
        have l1 : w.heap.size < w3.heap.size := by rw [← hw3]; exact hkl
        have l2 : gs < w3.heap.size := by rw [← hw3]; exact hgl
        have o1 : w3.cell? ⟨gs, q * 2, none⟩ = some (.int .i64 (y1 : Int)) := by rw [← hw3]; exact y1c
        have o2 : w3.cell? ⟨gs, q * 2 + 1, none⟩ = some (.int .i64 (y2 : Int)) := by rw [← hw3]; exact y2c
        clear hw3 k0 k1 k2 k3 k4 x1c x2c hkl hgl hszw hrow2 hbw2 y1c y2c
        go_wp2
        go_quiet (first | (go_at_call 107; with_reducible exact HL.out _ _ _ _))
        have HB4 : Hid (Below w.heap.size w ((w3.alloc (.cells #[.int .i64 (x1 : Int), .int .i64 (x2 : Int)] 54)).drewN nq)) := Base.below_drewN (HB3.out.alloc HB3.out.size _) _
        generalize hw4 : (w3.alloc (.cells #[.int .i64 (x1 : Int), .int .i64 (x2 : Int)] 54)).drewN nq = w4 at HB4
        have u2 : w4.cell? ⟨w.heap.size, 2, none⟩ = some (.int .i64 tf) := by rw [← hw4]; exact (World.cell?_of_block (Below.heap_alloc _ _ _ l1)).trans m2
        have u3 : w4.cell? ⟨w.heap.size, 3, none⟩ = some (.int .i64 0) := by rw [← hw4]; exact (World.cell?_of_block (Below.heap_alloc _ _ _ l1)).trans m3
        have u4 : w4.cell? ⟨gs, q * 2, none⟩ = some (.int .i64 (y1 : Int)) := by rw [← hw4]; exact (World.cell?_of_block (Below.heap_alloc _ _ _ l2)).trans o1
        have u5 : w4.cell? ⟨gs, q * 2 + 1, none⟩ = some (.int .i64 (y2 : Int)) := by rw [← hw4]; exact (World.cell?_of_block (Below.heap_alloc _ _ _ l2)).trans o2
        have l3 : w.heap.size < w4.heap.size := by rw [← hw4]; simp; omega
        have l4 : gs < w4.heap.size := by rw [← hw4]; simp; omega
        clear hw4 m2 m3 n1 n2 o1 o2 l1 l2
        go_wp2
        go_ret
        exact ⟨by rw [HR.out]; rfl, HB4.out.alloc HB4.out.size _⟩
    · obtain ⟨y1, y2⟩ := y
      simp only at hy12 hy2 hTE
      have HY := Lib.hid hy
      obtain ⟨q, hq⟩ : ∃ q : Nat, q = tf.toNat - 1 := ⟨_, rfl⟩
      rw [← hq] at HY
      have htq : tf - 1 = (q : Int) := by omega
      have hql : q < fs.length := by omega
      obtain ⟨E, hE⟩ : ∃ E : Nat, E = y1 + min tc.toNat (y2 - y1) := ⟨_, rfl⟩
      rw [← hE] at hTE
      subst hTE
      have hv2 : (y1 : Int) + min tc ((y2 : Int) - (y1 : Int)) = (T : Int) := by omega
      have hEs : T ≤ s.size := by omega
      clear hE hq hy
      by_cases hEA : T ≤ A
      · have hEA' : (T : Int) ≤ (A : Int) := by omega
        have HR : Hid (R = []) := by show _ = _; rw [HX.out, show T - A = 0 from by omega]; simp
        go_enter Tryz.func70, Tryz.ntmps70
        go_wp2_with (go_at_call 105; (with_reducible refine (HFL.out _).mono ?_); rintro e w2 ⟨fv, rfl, hrow2, hbw2⟩; have hkx : KBox w2 w.heap.size ⟨ff, fc, _, _, kfl⟩ := (hbw2.block _ (by simp)).trans (heap_alloc_new w _); obtain ⟨k0, k1, k2, k3, k4⟩ := hkx.cells; have hkl := hkx.lt; clear hkx; obtain ⟨gs, cs, rfl, hgb, hgl, hsc⟩ := span_cells hrow2 HNE.out; obtain ⟨x1c, x2c⟩ := hsc Q _ HXE.out; have HSC := Lib.hid hsc; clear hsc; simp only at x1c x2c; have hszw : w.heap.size < w2.heap.size := (by have := hbw2.size; simp at this; omega); obtain ⟨y1c, y2c⟩ := HSC.out q _ HY.out; simp only at y1c y2c)
        go_quiet (first | (go_at_call 106; with_reducible exact HM.out _ _ _ _))
        have HB3 : Hid (Below w.heap.size w (w2.drewN nq)) := Base.below_drewN (below_step HB.out hbw2) _
        generalize hw3 : w2.drewN nq = w3 at HB3
        have m2 : w3.cell? ⟨w.heap.size, 2, none⟩ = some (.int .i64 tf) := by rw [← hw3]; exact k2
        have m3 : w3.cell? ⟨w.heap.size, 3, none⟩ = some (.int .i64 tc) := by rw [← hw3]; exact k3
        have n1 : w3.cell? ⟨gs, Q * 2, none⟩ = some (.int .i64 (x1 : Int)) := by rw [← hw3]; exact x1c
        have n2 : w3.cell? ⟨gs, Q * 2 + 1, none⟩ = some (.int .i64 (x2 : Int)) := by rw [← hw3]; exact x2c
        have l1 : w.heap.size < w3.heap.size := by rw [← hw3]; exact hkl
        have l2 : gs < w3.heap.size := by rw [← hw3]; exact hgl
        have o1 : w3.cell? ⟨gs, q * 2, none⟩ = some (.int .i64 (y1 : Int)) := by rw [← hw3]; exact y1c
        have o2 : w3.cell? ⟨gs, q * 2 + 1, none⟩ = some (.int .i64 (y2 : Int)) := by rw [← hw3]; exact y2c
        clear hw3 k0 k1 k2 k3 k4 x1c x2c hkl hgl hszw hrow2 hbw2 y1c y2c
        go_wp2
        go_quiet (first | (go_at_call 107; with_reducible exact HL.out _ _ _ _))
        have HB4 : Hid (Below w.heap.size w ((w3.alloc (.cells #[.int .i64 (x1 : Int), .int .i64 (x2 : Int)] 54)).drewN nq)) := Base.below_drewN (HB3.out.alloc HB3.out.size _) _
        generalize hw4 : (w3.alloc (.cells #[.int .i64 (x1 : Int), .int .i64 (x2 : Int)] 54)).drewN nq = w4 at HB4
        have u2 : w4.cell? ⟨w.heap.size, 2, none⟩ = some (.int .i64 tf) := by rw [← hw4]; exact (World.cell?_of_block (Below.heap_alloc _ _ _ l1)).trans m2
        have u3 : w4.cell? ⟨w.heap.size, 3, none⟩ = some (.int .i64 tc) := by rw [← hw4]; exact (World.cell?_of_block (Below.heap_alloc _ _ _ l1)).trans m3
        have u4 : w4.cell? ⟨gs, q * 2, none⟩ = some (.int .i64 (y1 : Int)) := by rw [← hw4]; exact (World.cell?_of_block (Below.heap_alloc _ _ _ l2)).trans o1
        have u5 : w4.cell? ⟨gs, q * 2 + 1, none⟩ = some (.int .i64 (y2 : Int)) := by rw [← hw4]; exact (World.cell?_of_block (Below.heap_alloc _ _ _ l2)).trans o2
        have l3 : w.heap.size < w4.heap.size := by rw [← hw4]; simp; omega
        have l4 : gs < w4.heap.size := by rw [← hw4]; simp; omega
        clear hw4 m2 m3 n1 n2 o1 o2 l1 l2
        go_wp2
        go_quiet (first | (go_at_call 107; with_reducible exact HL.out _ _ _ _))
        go_wp2
        go_ret
        exact ⟨by rw [HR.out]; rfl, Base.below_drewN (HB4.out.alloc HB4.out.size _) _⟩
      · have hEA' : ¬ (T : Int) ≤ (A : Int) := by omega
        have hsl : ∀ W, (Instr.slice 9 (.string s) (some (.int .i64 (A : Int))) (some (.int .i64 (T : Int))) none).run Tryz.prog W = .ok (.string (s.extract A T)) W := fun W => run_slice_string W _ s .i64 .i64 _ _ Tryz.underlying9 (by omega) (by omega) (by omega)
        have HR : Hid (R = (s.extract A T).data.toList) := by show _ = _; rw [HX.out, piece_list s A T (by omega)]
        go_enter Tryz.func70, Tryz.ntmps70
        go_wp2_with (go_at_call 105; (with_reducible refine (HFL.out _).mono ?_); rintro e w2 ⟨fv, rfl, hrow2, hbw2⟩; have hkx : KBox w2 w.heap.size ⟨ff, fc, _, _, kfl⟩ := (hbw2.block _ (by simp)).trans (heap_alloc_new w _); obtain ⟨k0, k1, k2, k3, k4⟩ := hkx.cells; have hkl := hkx.lt; clear hkx; obtain ⟨gs, cs, rfl, hgb, hgl, hsc⟩ := span_cells hrow2 HNE.out; obtain ⟨x1c, x2c⟩ := hsc Q _ HXE.out; have HSC := Lib.hid hsc; clear hsc; simp only at x1c x2c; have hszw : w.heap.size < w2.heap.size := (by have := hbw2.size; simp at this; omega); obtain ⟨y1c, y2c⟩ := HSC.out q _ HY.out; simp only at y1c y2c)
        go_quiet (first | (go_at_call 106; with_reducible exact HM.out _ _ _ _))
        have HB3 : Hid (Below w.heap.size w (w2.drewN nq)) := Base.below_drewN (below_step HB.out hbw2) _
        generalize hw3 : w2.drewN nq = w3 at HB3
        have m2 : w3.cell? ⟨w.heap.size, 2, none⟩ = some (.int .i64 tf) := by rw [← hw3]; exact k2
        have m3 : w3.cell? ⟨w.heap.size, 3, none⟩ = some (.int .i64 tc) := by rw [← hw3]; exact k3
        have n1 : w3.cell? ⟨gs, Q * 2, none⟩ = some (.int .i64 (x1 : Int)) := by rw [← hw3]; exact x1c
        have n2 : w3.cell? ⟨gs, Q * 2 + 1, none⟩ = some (.int .i64 (x2 : Int)) := by rw [← hw3]; exact x2c
        have l1 : w.heap.size < w3.heap.size := by rw [← hw3]; exact hkl
        have l2 : gs < w3.heap.size := by rw [← hw3]; exact hgl
        have o1 : w3.cell? ⟨gs, q * 2, none⟩ = some (.int .i64 (y1 : Int)) := by rw [← hw3]; exact y1c
        have o2 : w3.cell? ⟨gs, q * 2 + 1, none⟩ = some (.int .i64 (y2 : Int)) := by rw [← hw3]; exact y2c
        clear hw3 k0 k1 k2 k3 k4 x1c x2c hkl hgl hszw hrow2 hbw2 y1c y2c
        go_wp2
        go_quiet (first | (go_at_call 107; with_reducible exact HL.out _ _ _ _))
        have HB4 : Hid (Below w.heap.size w ((w3.alloc (.cells #[.int .i64 (x1 : Int), .int .i64 (x2 : Int)] 54)).drewN nq)) := Base.below_drewN (HB3.out.alloc HB3.out.size _) _
        generalize hw4 : (w3.alloc (.cells #[.int .i64 (x1 : Int), .int .i64 (x2 : Int)] 54)).drewN nq = w4 at HB4
        have u2 : w4.cell? ⟨w.heap.size, 2, none⟩ = some (.int .i64 tf) := by rw [← hw4]; exact (World.cell?_of_block (Below.heap_alloc _ _ _ l1)).trans m2
        have u3 : w4.cell? ⟨w.heap.size, 3, none⟩ = some (.int .i64 tc) := by rw [← hw4]; exact (World.cell?_of_block (Below.heap_alloc _ _ _ l1)).trans m3
        have u4 : w4.cell? ⟨gs, q * 2, none⟩ = some (.int .i64 (y1 : Int)) := by rw [← hw4]; exact (World.cell?_of_block (Below.heap_alloc _ _ _ l2)).trans o1
        have u5 : w4.cell? ⟨gs, q * 2 + 1, none⟩ = some (.int .i64 (y2 : Int)) := by rw [← hw4]; exact (World.cell?_of_block (Below.heap_alloc _ _ _ l2)).trans o2
        have l3 : w.heap.size < w4.heap.size := by rw [← hw4]; simp; omega
        have l4 : gs < w4.heap.size := by rw [← hw4]; simp; omega
        clear hw4 m2 m3 n1 n2 o1 o2 l1 l2
        go_wp2
        go_quiet (first | (go_at_call 107; with_reducible exact HL.out _ _ _ _))
        go_wp2
        go_ret
        exact ⟨by rw [HR.out]; rfl, Base.below_drewN (HB4.out.alloc HB4.out.size _) _⟩
end Go.Proofs.YtkekpiillbpciaaGreatDoor.KRefField
