/- KNum1; KNum2; KLoc: merged into one text: lemmas for the walk of the law. No condition. -/
import Derived.Test.YtkekpiillbpciaaGreatDoorProg
import Derived.Test.YtkekpiillbpciaaGreatDoorM2
import Derived.Test.YtkekpiillbpciaaGreatDoorM3
import Derived.WalkKit
import Derived.Handy
import Derived.WalkLawsBesides
import Derived.WalkSpells
import Derived.Outline
/- Digits and decimal fractions: what the program and the reference read. The strings consist of digits where their value is asked. -/
namespace Go.Proofs.YtkekpiillbpciaaGreatDoor.KNum
open Go Go.RowKit KeyMath ScanMath NumMath Strs
set_option maxRecDepth 100000

theorem at_some (s : ByteArray) {k : Nat} (h : k < s.size) : s.data.toList[k]? = some s[k] := by
  rw [List.getElem?_eq_getElem (by simpa using h)]
  rfl
theorem at_none (s : ByteArray) {k : Nat} (h : ¬ k < s.size) : s.data.toList[k]? = none := List.getElem?_eq_none_iff.2 (by simp; omega)
theorem len_eq (s : ByteArray) : s.data.toList.length = s.size := by simp
set_option maxHeartbeats 2000000 in
theorem digits_any (s : ByteArray) (w : World) (hs : s.size ≤ maxLen) :
    Calls Tryz.prog 135 #[.string s] w fun e w' => e = .returned (.int .i64 (spanEnd digit s.data.toList 0 : Nat)) ∧ w = w' := by
  unfold maxLen at hs
  go_enter Tryz.func135, Tryz.ntmps135
  go_wp2
  go_loop [3] (fun i => ∃ k : Nat, k ≤ s.size ∧ i = .int .i64 k ∧ Hid (spanEnd digit s.data.toList k = spanEnd digit s.data.toList 0)) (fun i => s.size - (intOf i).toNat)
  case atStart => exact ⟨0, Nat.zero_le _, rfl, rfl⟩
  case round =>
    obtain ⟨k, hk, rfl, H⟩ := hrel
    by_cases hlt : k < s.size
    · have hx := Lib.hid (at_some s hlt)
      cases hd : digit s[k] with
      | true =>
        have H2 : Hid (spanEnd digit s.data.toList (k + 1) = spanEnd digit s.data.toList 0) := by show _ = _; rw [← H.out, span_go hx.out hd]
        obtain ⟨d1, d2⟩ := (digit_iff _).1 hd
        have d1 : 48 ≤ (s[k].toNat : Int) := by omega
        have d2 : (s[k].toNat : Int) ≤ 57 := by omega
        clear hd
        go_wp2
        go_round
        case rel => exact ⟨k + 1, by omega, by go_num, H2⟩
        case measure => simp [intOf]; omega
      | false =>
        have H2 : Hid (spanEnd digit s.data.toList 0 = k) := by show _ = _; rw [← H.out]; exact span_stop fun x h => by rw [hx.out] at h; cases h; exact hd
        have hn : ¬ (48 ≤ s[k].toNat ∧ s[k].toNat ≤ 57) := fun h => by rw [(digit_iff _).2 h] at hd; cases hd
        clear hd
        by_cases h48 : 48 ≤ s[k].toNat
        · have d1 : 48 ≤ (s[k].toNat : Int) := by omega
          have d2 : ¬ (s[k].toNat : Int) ≤ 57 := by omega
          go_wp2
          go_ret
          exact ⟨by rw [H2.out]; rfl, rfl⟩
        · have d1 : ¬ 48 ≤ (s[k].toNat : Int) := by omega
          go_wp2
          go_ret
          exact ⟨by rw [H2.out]; rfl, rfl⟩
    · obtain rfl : k = s.size := by omega
      have H2 : Hid (spanEnd digit s.data.toList 0 = s.size) := by show _ = _; rw [← H.out]; exact span_stop fun x h => by rw [at_none s hlt] at h; cases h
      go_wp2
      go_ret
      exact ⟨by rw [H2.out]; rfl, rfl⟩
set_option maxHeartbeats 2000000 in
theorem refDigits_any (s : ByteArray) (a : Nat) (w : World) (hs : s.size ≤ maxLen) (ha : a ≤ s.size) :
    Calls Tryz.prog 192 #[.string s, .int .i64 a] w fun e w' => e = .returned (.int .i64 (spanEnd digit s.data.toList a : Nat)) ∧ w = w' := by
  unfold maxLen at hs
  go_enter Tryz.func192, Tryz.ntmps192
  go_wp2
  go_loop [1] (fun i => ∃ k : Nat, k ≤ s.size ∧ i = .int .i64 k ∧ Hid (spanEnd digit s.data.toList k = spanEnd digit s.data.toList a)) (fun i => s.size - (intOf i).toNat)
  case atStart => exact ⟨a, ha, rfl, rfl⟩
  case round =>
    obtain ⟨k, hk, rfl, H⟩ := hrel
    by_cases hlt : k < s.size
    · have hx := Lib.hid (at_some s hlt)
      cases hd : digit s[k] with
      | true =>
        have H2 : Hid (spanEnd digit s.data.toList (k + 1) = spanEnd digit s.data.toList a) := by show _ = _; rw [← H.out, span_go hx.out hd]
        obtain ⟨d1, d2⟩ := (digit_iff _).1 hd
        have d1 : 48 ≤ (s[k].toNat : Int) := by omega
        have d2 : (s[k].toNat : Int) ≤ 57 := by omega
        clear hd
        go_wp2
        go_round
        case rel => exact ⟨k + 1, by omega, by go_num, H2⟩
        case measure => simp [intOf]; omega
      | false =>
        have H2 : Hid (spanEnd digit s.data.toList a = k) := by show _ = _; rw [← H.out]; exact span_stop fun x h => by rw [hx.out] at h; cases h; exact hd
        have hn : ¬ (48 ≤ s[k].toNat ∧ s[k].toNat ≤ 57) := fun h => by rw [(digit_iff _).2 h] at hd; cases hd
        clear hd
        by_cases h48 : 48 ≤ s[k].toNat
        · have d1 : 48 ≤ (s[k].toNat : Int) := by omega
          have d2 : ¬ (s[k].toNat : Int) ≤ 57 := by omega
          go_wp2
          go_ret
          exact ⟨by rw [H2.out]; rfl, rfl⟩
        · have d1 : ¬ 48 ≤ (s[k].toNat : Int) := by omega
          go_wp2
          go_ret
          exact ⟨by rw [H2.out]; rfl, rfl⟩
    · obtain rfl : k = s.size := by omega
      have H2 : Hid (spanEnd digit s.data.toList a = s.size) := by show _ = _; rw [← H.out]; exact span_stop fun x h => by rw [at_none s hlt] at h; cases h
      go_wp2
      go_ret
      exact ⟨by rw [H2.out]; rfl, rfl⟩
set_option maxHeartbeats 2000000 in
theorem fraction_any (f : ByteArray) (w : World) (hs : f.size ≤ maxLen) (hf : Digs f.data.toList) :
    Calls Tryz.prog 182 #[.string f] w fun e w' => e = .returned (.int .i64 (fracv f.data.toList : Nat)) ∧ w = w' := by
  unfold maxLen at hs
  have HF := Lib.hid hf
  clear hf
  go_enter Tryz.func182, Tryz.ntmps182
  go_wp2
  go_loop [3, 5] (fun d i => ∃ k : Nat, k ≤ 4 ∧ i = .int .i64 k ∧ d = .int .i64 (fr f.data.toList k : Nat)) (fun _ i => 4 - (intOf i).toNat)
  case atStart => exact ⟨0, by omega, rfl, rfl⟩
  case round =>
    obtain ⟨k, hk, rfl, rfl⟩ := hrel
    have hle := fr_le HF.out k
    have hp : 10 ^ k ≤ 10 ^ 4 := Nat.pow_le_pow_right (by omega) hk
    have hle : fr f.data.toList k < 10000 := by omega
    clear hp
    by_cases hlt : k < 4
    · have h4 : (k : Int) < 4 := by omega
      by_cases hin : k < f.size
      · have hx := Lib.hid (at_some f hin)
        have hd := (digit_iff _).1 (HF.out f[k] (List.mem_of_getElem? hx.out))
        have d1 : 48 ≤ (f[k].toNat : Int) := by omega
        have d2 : (f[k].toNat : Int) ≤ 57 := by omega
        have H2 : Hid (fr f.data.toList (k + 1) = 10 * fr f.data.toList k + (f[k].toNat - 48)) := by show _ = _; rw [fr, dig_some hx.out]
        clear hd
        generalize fr f.data.toList k = d at *
        go_wp2
        go_round
        case rel => exact ⟨k + 1, by omega, by go_num, by rw [H2.out]; congr 1; omega⟩
        case measure => simp [intOf]; omega
      · have H2 : Hid (fr f.data.toList (k + 1) = 10 * fr f.data.toList k) := by show _ = _; rw [fr, dig_none (by rw [len_eq]; omega), Nat.add_zero]
        generalize fr f.data.toList k = d at *
        go_wp2
        go_round
        case rel => exact ⟨k + 1, by omega, by go_num, by rw [H2.out]; congr 1; omega⟩
        case measure => simp [intOf]; omega
    · obtain rfl : k = 4 := by omega
      have H4 := Lib.hid (fr4 f.data.toList)
      go_wp2
      go_ret
      exact ⟨by rw [← H4.out]; rfl, rfl⟩
end Go.Proofs.YtkekpiillbpciaaGreatDoor.KNum

/- The value of whole digits and a fraction: what the program and the reference return for strings that consist of digits. -/
namespace Go.Proofs.YtkekpiillbpciaaGreatDoor.KNum
open Go Go.RowKit KeyMath ScanMath NumMath Strs
set_option maxRecDepth 100000

set_option maxHeartbeats 2000000 in
theorem value_any (s f : ByteArray) (w : World) (hs : s.size ≤ maxLen) (hf : f.size ≤ maxLen) (hds : Digs s.data.toList) (hdf : Digs f.data.toList) :
    Calls Tryz.prog 136 #[.string s, .string f] w fun e w' => e = .returned (.int .i64 (valv s.data.toList f.data.toList : Nat)) ∧ w = w' := by
  unfold maxLen at hs
  have HS := Lib.hid hds
  have HF := Lib.hid hdf
  have HM := Lib.hid hf
  clear hds hdf hf
  have hfl := fracv_le HF.out
  go_enter Tryz.func136, Tryz.ntmps136
  go_wp2
  go_loop [5, 9] (fun d i => ∃ k : Nat, k ≤ s.size ∧ i = .int .i64 k ∧ d = .int .i64 (numv (s.data.toList.take k) : Nat) ∧ numv (s.data.toList.take k) ≤ 1000000000) (fun _ i => s.size - (intOf i).toNat)
  case atStart => exact ⟨0, by omega, rfl, rfl, by simp [numv]⟩
  case round =>
    obtain ⟨k, hk, rfl, rfl, hle⟩ := hrel
    by_cases hlt : k < s.size
    · have hx := Lib.hid (at_some s hlt)
      have hd := (digit_iff _).1 (HS.out s[k] (List.mem_of_getElem? hx.out))
      have d1 : 48 ≤ (s[k].toNat : Int) := by omega
      have d2 : (s[k].toNat : Int) ≤ 57 := by omega
      have H2 := Lib.hid (numv_take hx.out)
      have hlt' : (k : Int) < (s.size : Int) := by omega
      clear hd
      by_cases hbig : 1000000000 < 10 * numv (s.data.toList.take k) + (s[k].toNat - 48)
      · have HB : Hid (valv s.data.toList f.data.toList = 10000000000001) := by
          show _ = _
          unfold valv
          rw [if_pos (numv_big (k := k + 1) (by rw [H2.out]; exact hbig))]
        generalize numv (s.data.toList.take k) = d at *
        have hbig' : (1000000000 : Int) < 10 * (d : Int) + ((s[k].toNat : Int) - 48) := by omega
        go_wp2
        go_ret
        exact ⟨by rw [HB.out]; rfl, rfl⟩
      · have hn : numv (s.data.toList.take (k + 1)) ≤ 1000000000 := by rw [H2.out]; omega
        have HN := Lib.hid hn
        clear hn
        generalize numv (s.data.toList.take k) = d at *
        have hbig' : 10 * (d : Int) + ((s[k].toNat : Int) - 48) ≤ 1000000000 := by omega
        go_wp2
        go_round
        case rel => exact ⟨k + 1, by omega, by go_num, by rw [H2.out]; congr 1; omega, HN.out⟩
        case measure => simp [intOf]; omega
    · obtain rfl : k = s.size := by omega
      have e : s.data.toList.take s.size = s.data.toList := List.take_of_length_le (by rw [len_eq]; exact Nat.le_refl _)
      rw [e] at hle ⊢
      have hv : valv s.data.toList f.data.toList = min 10000000000001 (numv s.data.toList * 10000 + fracv f.data.toList) := by
        unfold valv
        rw [if_neg (by omega)]
      have HFR := Lib.hid (fun W => fraction_any f W HM.out HF.out)
      generalize hdd : numv s.data.toList = d at *
      generalize hrr : fracv f.data.toList = r at *
      clear hdd hrr
      by_cases hbig : d * 10000 + r < 10000000000001
      · have hv2 : ((valv s.data.toList f.data.toList : Nat) : Int) = (d : Int) * 10000 + r := by omega
        have HV := Lib.hid hv2
        have hb' : (d : Int) * 10000 + r < 10000000000001 := by omega
        clear hv hv2 hbig
        go_wp2_with (go_at_call 182; (with_reducible refine (HFR.out _).mono ?_); rintro e w2 ⟨rfl, rfl⟩)
        go_ret
        refine ⟨?_, rfl⟩
        rw [HV.out]
        rfl
      · have hv2 : ((valv s.data.toList f.data.toList : Nat) : Int) = 10000000000001 := by omega
        have HV := Lib.hid hv2
        have hb' : (10000000000001 : Int) ≤ (d : Int) * 10000 + r := by omega
        clear hv hv2 hbig
        go_wp2_with (go_at_call 182; (with_reducible refine (HFR.out _).mono ?_); rintro e w2 ⟨rfl, rfl⟩)
        go_ret
        refine ⟨?_, rfl⟩
        rw [HV.out]
        rfl
/-- what the reference's number returns -/
def numberV (a b : Str) : Value := .tuple (if 1000000000 < numv a then #[.int .i64 0, .bool false] else #[.int .i64 ((numv a * 10000 + fracv b : Nat) : Int), .bool (decide (numv a * 10000 + fracv b ≤ 10000000000000))])
set_option maxHeartbeats 2000000 in
theorem number_any (s f : ByteArray) (w : World) (hs : s.size ≤ maxLen) (hf : f.size ≤ maxLen) (hds : Digs s.data.toList) (hdf : Digs f.data.toList) :
    Calls Tryz.prog 193 #[.string s, .string f] w fun e w' =>
      e = .returned (numberV s.data.toList f.data.toList) ∧ w = w' := by
  unfold maxLen at hs hf
  have HS := Lib.hid hds
  have HF := Lib.hid hdf
  clear hds hdf
  have hfl := fracv_le HF.out
  go_enter Tryz.func193, Tryz.ntmps193
  go_wp2
  go_loop [6, 7] (fun d i => ∃ k : Nat, k ≤ s.size ∧ i = .int .i64 k ∧ d = .int .i64 (numv (s.data.toList.take k) : Nat) ∧ numv (s.data.toList.take k) ≤ 1000000000) (fun _ i => s.size - (intOf i).toNat)
  case atStart => exact ⟨0, by omega, rfl, rfl, by simp [numv]⟩
  case round =>
    obtain ⟨k, hk, rfl, rfl, hle⟩ := hrel
    by_cases hlt : k < s.size
    · have hx := Lib.hid (at_some s hlt)
      have hd := (digit_iff _).1 (HS.out s[k] (List.mem_of_getElem? hx.out))
      have d1 : 48 ≤ (s[k].toNat : Int) := by omega
      have d2 : (s[k].toNat : Int) ≤ 57 := by omega
      have H2 := Lib.hid (numv_take hx.out)
      clear hd
      by_cases hbig : 1000000000 < 10 * numv (s.data.toList.take k) + (s[k].toNat - 48)
      · have HB : Hid (1000000000 < numv s.data.toList) := numv_big (k := k + 1) (by rw [H2.out]; exact hbig)
        generalize numv (s.data.toList.take k) = d at *
        have hbig' : (1000000000 : Int) < 10 * (d : Int) + ((s[k].toNat : Int) - 48) := by omega
        have hbig2 : (1000000000 : Int) < (d : Int) * 10 + ((s[k].toNat : Int) - 48) := by omega
        go_wp2
        go_ret2
        exact ⟨by unfold numberV; rw [if_pos HB.out]; rfl, rfl⟩
      · have hn : numv (s.data.toList.take (k + 1)) ≤ 1000000000 := by rw [H2.out]; omega
        have HN := Lib.hid hn
        clear hn
        generalize numv (s.data.toList.take k) = d at *
        have hbig' : (d : Int) * 10 + ((s[k].toNat : Int) - 48) ≤ 1000000000 := by omega
        go_wp2
        go_round
        case rel => exact ⟨k + 1, by omega, by go_num, by rw [H2.out]; congr 1; omega, HN.out⟩
        case measure => simp [intOf]; omega
    · obtain rfl : k = s.size := by omega
      have e : s.data.toList.take s.size = s.data.toList := List.take_of_length_le (by rw [len_eq]; exact Nat.le_refl _)
      rw [e] at hle ⊢
      have HB : Hid (¬ 1000000000 < numv s.data.toList) := by show ¬ _; omega
      go_wp2
      go_loop [6, 8] (fun d i => ∃ k : Nat, k ≤ 4 ∧ i = .int .i64 k ∧ d = .int .i64 ((numv s.data.toList * 10 ^ k + fr f.data.toList k : Nat) : Int)) (fun _ i => 4 - (intOf i).toNat)
      case atStart => exact ⟨0, by omega, rfl, by simp [fr]⟩
      case round =>
        obtain ⟨k, hk, rfl, rfl⟩ := hrel
        have hfk := fr_le HF.out k
        have hp : 10 ^ k ≤ 10 ^ 4 := Nat.pow_le_pow_right (by omega) hk
        have hfk : fr f.data.toList k < 10000 := by omega
        have hm : numv s.data.toList * 10 ^ k ≤ 1000000000 * 10 ^ 4 := Nat.mul_le_mul hle hp
        have hps : 10 ^ (k + 1) = 10 ^ k * 10 := Nat.pow_succ 10 k
        have hme : numv s.data.toList * 10 ^ (k + 1) = numv s.data.toList * 10 ^ k * 10 := by rw [hps, Nat.mul_assoc]
        have HME := Lib.hid hme
        clear hp hps hme
        by_cases hlt : k < 4
        · have h4 : (k : Int) < 4 := by omega
          by_cases hin : k < f.size
          · have hx := Lib.hid (at_some f hin)
            have hd := (digit_iff _).1 (HF.out f[k] (List.mem_of_getElem? hx.out))
            have d1 : 48 ≤ (f[k].toNat : Int) := by omega
            have d2 : (f[k].toNat : Int) ≤ 57 := by omega
            have H2 : Hid (fr f.data.toList (k + 1) = 10 * fr f.data.toList k + (f[k].toNat - 48)) := by show _ = _; rw [fr, dig_some hx.out]
            have hin' : (k : Int) < (f.size : Int) := by omega
            clear hd
            generalize hDD : numv s.data.toList * 10 ^ k + fr f.data.toList k = d
            have HD := Lib.hid hDD
            have hd3 : d ≤ 10000000010000 := by omega
            clear hDD
            go_wp2
            go_round
            case rel => exact ⟨k + 1, by omega, by go_num, by rw [HME.out, H2.out, ← HD.out]; congr 1; omega⟩
            case measure => simp [intOf]; omega
          · have H2 : Hid (fr f.data.toList (k + 1) = 10 * fr f.data.toList k) := by show _ = _; rw [fr, dig_none (by rw [len_eq]; omega), Nat.add_zero]
            generalize hDD : numv s.data.toList * 10 ^ k + fr f.data.toList k = d
            have HD := Lib.hid hDD
            have hd3 : d ≤ 10000000010000 := by omega
            clear hDD
            go_wp2
            go_round
            case rel => exact ⟨k + 1, by omega, by go_num, by rw [HME.out, H2.out, ← HD.out]; congr 1; omega⟩
            case measure => simp [intOf]; omega
        · obtain rfl : k = 4 := by omega
          rw [fr4] at hfk ⊢
          have e4 : (10 : Nat) ^ 4 = 10000 := rfl
          rw [e4] at hm ⊢
          have hdd : decide (numv s.data.toList * 10000 + fracv f.data.toList ≤ 10000000000000) = decide (((numv s.data.toList * 10000 + fracv f.data.toList : Nat) : Int) ≤ 10000000000000) := decide_eq_decide.2 ⟨fun h => by omega, fun h => by omega⟩
          have HV : Hid (numberV s.data.toList f.data.toList = .tuple #[.int .i64 ((numv s.data.toList * 10000 + fracv f.data.toList : Nat) : Int), .bool (decide (((numv s.data.toList * 10000 + fracv f.data.toList : Nat) : Int) ≤ 10000000000000))]) := by
            show _ = _
            unfold numberV
            rw [if_neg HB.out, hdd]
          clear hdd
          generalize numv s.data.toList * 10000 + fracv f.data.toList = d at *
          go_wp2
          go_ret2
          refine ⟨?_, rfl⟩
          rw [HV.out]
          rfl
end Go.Proofs.YtkekpiillbpciaaGreatDoor.KNum

/- The default locale: how it lies in memory, and the letters that it makes capital. -/
namespace Go.Proofs.YtkekpiillbpciaaGreatDoor.KLoc
open Go Go.RowKit KeyMath Strs
set_option maxRecDepth 100000

def posix : Value := .string ⟨#[112, 111, 115, 105, 120]⟩
def lowT : List UInt8 := (List.range 256).map fun i => if 65 ≤ i ∧ i ≤ 90 then UInt8.ofNat (i + 32) else UInt8.ofNat i
def upT : List UInt8 := (List.range 256).map fun i => if 97 ≤ i ∧ i ≤ 122 then UInt8.ofNat (i - 32) else UInt8.ofNat i
def wcells : List Value := (List.range 256).map fun (i : Nat) => Value.int .i64 (i : Int)
def locVal (v : Value) : Value := .agg #[posix, v, .string ⟨lowT.toArray⟩, .string ⟨upT.toArray⟩, .slice none 0 0, .slice none 0 0]
/-- the weights of the default locale -/
def Wts (w : World) (v : Value) : Prop := ∃ g c, v = .slice (some ⟨g, 0, none⟩) 256 c ∧ 256 ≤ c ∧ ∀ i : Nat, i < 256 → w.cell? ⟨g, i, none⟩ = some (.int .i64 (i : Int))
theorem Wts.below {w w' : World} {v : Value} (h : Wts w v) (hb : Below w.heap.size w w') : Wts w' v := by
  obtain ⟨g, c, rfl, hc, hcell⟩ := h
  exact ⟨g, c, rfl, hc, fun i hi => up hb (hcell i hi)⟩
theorem Wts.drewN {w : World} {v : Value} (h : Wts w v) (n : Nat) : Wts (w.drewN n) v := h
theorem upT_at (b : UInt8) : upT[b.toNat]? = some (upc b) := by
  have hb := b.toNat_lt
  have : ∀ i : Fin 256, upT[i.val]? = some (upc (UInt8.ofNat i.val)) := by decide +kernel
  have := this ⟨b.toNat, hb⟩
  simpa using this
end Go.Proofs.YtkekpiillbpciaaGreatDoor.KLoc
