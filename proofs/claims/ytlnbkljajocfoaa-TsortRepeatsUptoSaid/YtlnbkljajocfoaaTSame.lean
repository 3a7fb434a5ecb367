/- SameCycles reports whether two lists of lists of strings are equal. -/
import Derived.Test.YtlnbkljajocfoaaTOut
import Derived.BigQuiet
import Derived.Deep.QuietTactic
namespace Go.Proofs.Ytlnbkljajocfoaa.TSame
open Go Go.RowKit Strs TPairs TOut

theorem same_q (a b : Value) (xs ys : List Str) (w : World) (n m : Nat) (ha : Strs w a xs) (hb : Strs w b ys) :
    Calls Try.prog 14 #[a, b] (w.drewN (n + m)) fun e w'' => e = .returned (.bool (decide (xs = ys))) ∧ ∃ k, w'' = w.drewN (n + k) :=
  (same_any a b xs ys (w.drewN (n + m)) (ha.drewN _) (hb.drewN _)).mono fun _ _ ⟨he, k, hk⟩ => ⟨he, m + k, by rw [hk, World.drewN_drewN, Nat.add_assoc]⟩
set_option maxHeartbeats 1000000 in
theorem cycles_any (a b : Value) (xs ys : List (List Str)) (w : World) (ha : Lists w a xs) (hb : Lists w b ys) :
    Calls Try.prog 15 #[a, b] w fun e w' => e = .returned (.bool (decide (xs = ys))) ∧ ∃ n, w' = w.drewN n := by
  obtain ⟨aa, ca, rfl, hma0, hca⟩ := ha
  obtain ⟨ab, cb, rfl, hmb0, hcb⟩ := hb
  have hma : xs.length ≤ 2 ^ 63 - 1 := Nat.le_trans hma0.1 hma0.2
  have hmb : ys.length ≤ 2 ^ 63 - 1 := Nat.le_trans hmb0.1 hmb0.2
  clear hma0 hmb0
  by_cases hl : xs.length = ys.length
  · have hl1 : ((xs.length : Int) != ys.length) = false := by simp [hl]
    have HL := Lib.hid hl
    clear hl
    go_enter Try.func15, Try.ntmps15
    go_wp2
    go_loopw [5] (fun i wr => ∃ k n : Nat, k ≤ xs.length ∧ i = .int .i64 k ∧ wr = w.drewN n ∧ xs.take k = ys.take k) (fun i _ => xs.length - (intOf i).toNat)
    case atStart => exact ⟨0, 0, Nat.zero_le _, rfl, rfl, rfl⟩
    case round =>
      obtain ⟨k, n, hk, rfl, rfl, htk⟩ := hrel
      have HT := Lib.hid htk
      clear htk
      by_cases hlt : k < xs.length
      · obtain ⟨bx, rfl, hcx⟩ := hca (by intro e; subst e; simp at hlt)
        obtain ⟨bY, rfl, hcy⟩ := hcb (by intro e; subst e; have := HL.out; simp at this; subst this; simp at hlt)
        obtain ⟨vx, hx, hsx⟩ := hcx k xs[k] (List.getElem?_eq_getElem hlt)
        have hlt2 : k < ys.length := by have := HL.out; omega
        obtain ⟨vy, hy, hsy⟩ := hcy k ys[k] (List.getElem?_eq_getElem hlt2)
        have hxs : xs[k]? = some xs[k] := List.getElem?_eq_getElem hlt
        have hys : ys[k]? = some ys[k] := List.getElem?_eq_getElem hlt2
        have HX := Lib.hid hxs
        have HY := Lib.hid hys
        clear hxs hys hca hcb hcx hcy
        generalize xs[k] = x at *
        generalize ys[k] = y at *
        have b1 : (k : Int) < (xs.length : Int) := by omega
        have b2 : (k : Int) < (ys.length : Int) := by omega
        have HC := Lib.hid (fun m => same_q vx vy x y w n m hsx hsy)
        clear hsx hsy
        by_cases he : x = y
        · have hq : decide (x = y) = true := by simp [he]
          rw [hq] at HC
          have HE := Lib.hid he
          clear he hq
          go_wp2_with fail
          go_quiet (first | (go_at_call 14; with_reducible exact HC.out _))
          go_wp2
          go_roundw
          case rel => exact ⟨k + 1, _, by omega, by go_num, rfl, take_succ HT.out HX.out HY.out HE.out⟩
          case measure => simp [intOf]; omega
        · have hq : decide (x = y) = false := by simp [he]
          rw [hq] at HC
          have hne : decide (xs = ys) = false := by
            simp only [decide_eq_false_iff_not]
            intro e
            subst e
            have := HX.out.symm.trans HY.out
            injection this with this
            exact he this
          have HN := Lib.hid hne
          clear he hne hq
          go_wp2_with fail
          go_quiet (first | (go_at_call 14; with_reducible exact HC.out _))
          go_wp2
          go_ret
          rw [HN.out]
          exact ⟨rfl, n + nq, by rw [World.drewN_drewN]⟩
      · have hxy : decide (xs = ys) = true := by
          simp only [decide_eq_true_eq]
          have h1 := HT.out
          rw [List.take_of_length_le (by omega), List.take_of_length_le (by have := HL.out; omega)] at h1
          exact h1
        have HN := Lib.hid hxy
        clear hxy
        go_wp2
        go_ret
        rw [HN.out]
        exact ⟨rfl, _, rfl⟩
  · have hl1 : ((xs.length : Int) != ys.length) = true := by simp; omega
    have hne : decide (xs = ys) = false := by
      simp only [decide_eq_false_iff_not]
      intro e; exact hl (by rw [e])
    have HN := Lib.hid hne
    clear hne hl
    go_enter Try.func15, Try.ntmps15
    go_wp2
    go_ret
    rw [HN.out]
    exact ⟨rfl, 0, rfl⟩
end Go.Proofs.Ytlnbkljajocfoaa.TSame
