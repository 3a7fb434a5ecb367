/- KDiffer; KCount; KExtra; KShort; KSame: merged into one text: lemmas for the walk of the law. No condition. -/
import Derived.Test.YtkekpiillbpciaaGreatDoorM3
import Derived.Test.YtkekpiillbpciaaGreatDoorM2
import Derived.Test.YtkekpiillbpciaaGreatDoorM6
/- Where two lists of lines differ first: what both sides return. -/
namespace Go.Proofs.YtkekpiillbpciaaGreatDoor.KDiffer
open Go Go.RowKit KeyMath Strs KNum
set_option maxRecDepth 100000
theorem at2_same {xs ys : List Str} {k j : Nat} (h : xs.take k = ys.take k) (hj : j < k) : at2 (fun x y => decide (x ≠ y)) xs[j]? ys[j]? = false := by
  have e : xs[j]? = ys[j]? := by
    have := congrArg (fun l => l[j]?) h
    simpa [List.getElem?_take, hj] using this
  rw [e]
  cases ys[j]? <;> simp [at2]
theorem differ_hit {xs ys : List Str} {k : Nat} {x y : Str} (h : xs.take k = ys.take k) (hx : xs[k]? = some x) (hy : ys[k]? = some y) (hne : x ≠ y) : KeyMath.differ xs ys = (k : Int) := by
  have h1 := (List.getElem?_eq_some_iff.1 hx).1
  have h2 := (List.getElem?_eq_some_iff.1 hy).1
  have e : differAt xs ys = (k : Int) := first_hit (fun j hj => at2_same h hj) (by omega) (by rw [hx, hy]; simp [at2, hne])
  unfold KeyMath.differ
  rw [e, if_pos (by omega)]
theorem differ_end {xs ys : List Str} {k : Nat} (h : xs.take k = ys.take k) (hk : k = min xs.length ys.length) : KeyMath.differ xs ys = if xs.length = ys.length then (-1 : Int) else ((min xs.length ys.length : Nat) : Int) := by
  have e : differAt xs ys = -1 := first_none (fun j hj => at2_same h (by omega))
  unfold KeyMath.differ
  rw [e, if_neg (by omega)]
set_option maxHeartbeats 4000000 in
theorem refDiffer_any (a b : Value) (xs ys : List Str) (w : World) (ha : Strs w a xs) (hb : Strs w b ys) :
    Calls Tryz.prog 25 #[a, b] w fun e w' => e = .returned (.int .i64 (KeyMath.differ xs ys)) ∧ ∃ n, w' = w.drewN n := by
  obtain ⟨aa, ca, rfl, hma0, hca⟩ := ha
  obtain ⟨ab, cb, rfl, hmb0, hcb⟩ := hb
  have hma : xs.length ≤ 2 ^ 63 - 1 := Nat.le_trans hma0.1 hma0.2
  have hmb : ys.length ≤ 2 ^ 63 - 1 := Nat.le_trans hmb0.1 hmb0.2
  clear hma0 hmb0
  go_enter Tryz.func25, Tryz.ntmps25
  go_wp2
  go_loopw [5] (fun i wr => ∃ k n : Nat, k ≤ xs.length ∧ k ≤ ys.length ∧ i = .int .i64 k ∧ wr = w.drewN n ∧ Hid (xs.take k = ys.take k)) (fun i _ => xs.length - (intOf i).toNat)
  case atStart => exact ⟨0, 0, Nat.zero_le _, Nat.zero_le _, rfl, rfl, rfl⟩
  case round =>
    obtain ⟨k, n, hk1, hk2, rfl, rfl, HT⟩ := hrel
    by_cases h12 : k < xs.length ∧ k < ys.length
    · obtain ⟨h1, h2⟩ := h12
      have b1 : (k : Int) < (xs.length : Int) := by omega
      have b2 : (k : Int) < (ys.length : Int) := by omega
      obtain ⟨bx, ox, rfl, hcx⟩ := hca (by intro e; subst e; simp at h1)
      obtain ⟨bY, oY, rfl, hcy⟩ := hcb (by intro e; subst e; simp at h2)
      have hxs : xs[k]? = some xs[k] := List.getElem?_eq_getElem h1
      have hys : ys[k]? = some ys[k] := List.getElem?_eq_getElem h2
      have hx := hcx k xs[k] hxs
      have hy := hcy k ys[k] hys
      have HX := Lib.hid hxs
      have HY := Lib.hid hys
      clear hxs hys hca hcb hcx hcy
      generalize xs[k] = x at *
      generalize ys[k] = y at *
      by_cases he : x = y
      · have hq : (x == y) = true := by simp [he]
        have HE := Lib.hid he
        clear he
        go_wp2
        go_quiet (fail)
        go_wp2
        go_roundw
        case rel => exact ⟨k + 1, _, by omega, by omega, by go_num, rfl, take_succ HT.out HX.out HY.out HE.out⟩
        case measure => simp [intOf]; omega
      · have hq : (x == y) = false := by simp [he]
        have HR := Lib.hid (differ_hit HT.out HX.out HY.out he)
        clear he
        go_wp2
        go_quiet (fail)
        go_wp2
        go_ret
        exact ⟨by rw [HR.out]; rfl, n + nq, by rw [World.drewN_drewN]⟩
    · have HR := Lib.hid (differ_end HT.out (by omega))
      by_cases hl : xs.length = ys.length
      · rw [if_pos hl] at HR
        have hl1 : ((xs.length : Int) == (ys.length : Int)) = true := by simp [hl]
        have b1 : ¬ (k : Int) < (xs.length : Int) := by omega
        clear hca hcb hl
        go_wp2 <;>
          (go_ret
           exact ⟨by rw [HR.out]; rfl, n, rfl⟩)
      · rw [if_neg hl] at HR
        have hl1 : ((xs.length : Int) == (ys.length : Int)) = false := by simp; omega
        have hmn : ((min xs.length ys.length : Nat) : Int) = min (xs.length : Int) (ys.length : Int) := by omega
        replace hmn := Lib.hid hmn
        clear hca hcb hl
        by_cases c1 : k < xs.length
        · have b1 : (k : Int) < (xs.length : Int) := by omega
          have b2 : ¬ (k : Int) < (ys.length : Int) := by omega
          go_wp2
          go_ret
          exact ⟨by rw [HR.out]; refine ret_int ?_; omega, n, rfl⟩
        · have b1 : ¬ (k : Int) < (xs.length : Int) := by omega
          go_wp2
          go_ret
          exact ⟨by rw [HR.out]; refine ret_int ?_; omega, n, rfl⟩
set_option maxHeartbeats 4000000 in
theorem differs_any (a b : Value) (xs ys : List Str) (w : World) (ha : Strs w a xs) (hb : Strs w b ys) :
    Calls Tryz.prog 18 #[a, b] w fun e w' => e = .returned (.int .i64 (KeyMath.differ xs ys)) ∧ ∃ n, w' = w.drewN n := by
  obtain ⟨aa, ca, rfl, hma0, hca⟩ := ha
  obtain ⟨ab, cb, rfl, hmb0, hcb⟩ := hb
  have hma : xs.length ≤ 2 ^ 63 - 1 := Nat.le_trans hma0.1 hma0.2
  have hmb : ys.length ≤ 2 ^ 63 - 1 := Nat.le_trans hmb0.1 hmb0.2
  clear hma0 hmb0
  go_enter Tryz.func18, Tryz.ntmps18
  go_wp2
  all_goals
    go_loopw [11] (fun i wr => ∃ k n : Nat, k ≤ xs.length ∧ k ≤ ys.length ∧ i = .int .i64 k ∧ wr = w.drewN n ∧ Hid (xs.take k = ys.take k)) (fun i _ => xs.length - (intOf i).toNat)
    case atStart => exact ⟨0, 0, Nat.zero_le _, Nat.zero_le _, rfl, rfl, rfl⟩
    case round =>
      obtain ⟨k, n, hk1, hk2, rfl, rfl, HT⟩ := hrel
      by_cases h12 : k < xs.length ∧ k < ys.length
      · obtain ⟨h1, h2⟩ := h12
        have b1 : (k : Int) < (xs.length : Int) := by omega
        have b2 : (k : Int) < (ys.length : Int) := by omega
        obtain ⟨bx, ox, rfl, hcx⟩ := hca (by intro e; subst e; simp at h1)
        obtain ⟨bY, oY, rfl, hcy⟩ := hcb (by intro e; subst e; simp at h2)
        have hxs : xs[k]? = some xs[k] := List.getElem?_eq_getElem h1
        have hys : ys[k]? = some ys[k] := List.getElem?_eq_getElem h2
        have hx := hcx k xs[k] hxs
        have hy := hcy k ys[k] hys
        have HX := Lib.hid hxs
        have HY := Lib.hid hys
        clear hxs hys hca hcb hcx hcy
        generalize xs[k] = x at *
        generalize ys[k] = y at *
        by_cases he : x = y
        · have hq : (x == y) = true := by simp [he]
          have HE := Lib.hid he
          clear he
          go_wp2
          go_quiet (fail)
          go_wp2
          go_roundw
          case rel => exact ⟨k + 1, _, by omega, by omega, by go_num, rfl, take_succ HT.out HX.out HY.out HE.out⟩
          case measure => simp [intOf]; omega
        · have hq : (x == y) = false := by simp [he]
          have HR := Lib.hid (differ_hit HT.out HX.out HY.out he)
          clear he
          go_wp2
          go_quiet (fail)
          go_wp2
          go_ret
          exact ⟨by rw [HR.out]; rfl, n + nq, by rw [World.drewN_drewN]⟩
      · have HR := Lib.hid (differ_end HT.out (by omega))
        by_cases hl : xs.length = ys.length
        · rw [if_pos hl] at HR
          have hl1 : ((xs.length : Int) == (ys.length : Int)) = true := by simp [hl]
          have b1 : ¬ (k : Int) < (xs.length : Int) := by omega
          clear hca hcb hl
          go_wp2 <;>
            (go_ret
             exact ⟨by rw [HR.out]; rfl, n, rfl⟩)
        · rw [if_neg hl] at HR
          have hl1 : ((xs.length : Int) == (ys.length : Int)) = false := by simp; omega
          have hmn : ((min xs.length ys.length : Nat) : Int) = min (xs.length : Int) (ys.length : Int) := by omega
          replace hmn := Lib.hid hmn
          clear hca hcb hl
          by_cases c1 : k < xs.length
          · have b1 : (k : Int) < (xs.length : Int) := by omega
            have b2 : ¬ (k : Int) < (ys.length : Int) := by omega
            first
              | (exfalso; omega)
              | (go_wp2
                 go_ret
                 exact ⟨by rw [HR.out]; refine ret_int ?_; omega, n, rfl⟩)
          · have b1 : ¬ (k : Int) < (xs.length : Int) := by omega
            first
              | (exfalso; omega)
              | (go_wp2
                 go_ret
                 exact ⟨by rw [HR.out]; refine ret_int ?_; omega, n, rfl⟩)
end Go.Proofs.YtkekpiillbpciaaGreatDoor.KDiffer

/- How often a line is there: what the reference's count returns. -/
namespace Go.Proofs.YtkekpiillbpciaaGreatDoor.KCount
open Go Go.RowKit KeyMath Strs KNum
set_option maxRecDepth 100000
theorem count_yes {l : List Str} {k : Nat} {x : Str} (h : l[k]? = some x) : (l.take (k + 1)).count x = (l.take k).count x + 1 := by
  rw [List.take_add_one, h]
  simp
theorem count_no {l : List Str} {k : Nat} {x s : Str} (h : l[k]? = some x) (hne : x ≠ s) : (l.take (k + 1)).count s = (l.take k).count s := by
  rw [List.take_add_one, h]
  simp [List.count_append, List.count_cons, hne]
set_option maxHeartbeats 4000000 in
theorem count_any (a : Value) (xs : List Str) (n : Nat) (s : Str) (w : World) (ha : Strs w a xs) (hn : n ≤ xs.length) :
    Calls Tryz.prog 48 #[a, .int .i64 (n : Int), .string ⟨s.toArray⟩] w fun e w' => e = .returned (.int .i64 (((xs.take n).count s : Nat) : Int)) ∧ w = w' := by
  obtain ⟨aa, ca, rfl, hma0, hca⟩ := ha
  have hma : xs.length ≤ 2 ^ 63 - 1 := Nat.le_trans hma0.1 hma0.2
  clear hma0
  go_enter Tryz.func48, Tryz.ntmps48
  go_wp2
  go_loop [7, 8] (fun c i => ∃ k m : Nat, k ≤ n ∧ m ≤ k ∧ i = .int .i64 k ∧ c = .int .i64 m ∧ Hid ((xs.take k).count s = m)) (fun _ i => n - (intOf i).toNat)
  case atStart => exact ⟨0, 0, Nat.zero_le _, Nat.zero_le _, rfl, rfl, by simp [Hid]⟩
  case round =>
    obtain ⟨k, m, hk, hm, rfl, rfl, HM⟩ := hrel
    by_cases hlt : k < n
    · have b1 : (k : Int) < (n : Int) := by omega
      have b2 : k < xs.length := by omega
      obtain ⟨bx, ox, rfl, hcx⟩ := hca (by intro e; subst e; simp at b2)
      have hxs : xs[k]? = some xs[k] := List.getElem?_eq_getElem b2
      have hx := hcx k xs[k] hxs
      have HX := Lib.hid hxs
      have b3 : (k : Int) < (xs.length : Int) := by omega
      clear hxs hca hcx
      generalize xs[k] = x at *
      by_cases he : x = s
      · have hq : (x == s) = true := by simp [he]
        have HN : Hid ((xs.take (k + 1)).count s = m + 1) := by
          show _ = _
          rw [← HM.out, ← he]
          exact count_yes HX.out
        clear he
        go_wp2
        go_round
        case rel => exact ⟨k + 1, m + 1, by omega, by omega, by go_num, by go_num, HN⟩
        case measure => simp [intOf]; omega
      · have hq : (x == s) = false := by simp [he]
        have HN : Hid ((xs.take (k + 1)).count s = m) := by
          show _ = _
          rw [← HM.out]
          exact count_no HX.out he
        clear he
        go_wp2
        go_round
        case rel => exact ⟨k + 1, m, by omega, by omega, by go_num, rfl, HN⟩
        case measure => simp [intOf]; omega
    · obtain rfl : k = n := by omega
      clear hca
      go_wp2
      go_ret
      exact ⟨by rw [HM.out]; rfl, rfl⟩
end Go.Proofs.YtkekpiillbpciaaGreatDoor.KCount

/- The first line that is there too often: what the reference's extra returns. -/
namespace Go.Proofs.YtkekpiillbpciaaGreatDoor.KCount
open Go Go.RowKit KeyMath Strs KNum
set_option maxRecDepth 100000
def exF (l o : List Str) (k : Nat) : Bool := match l[k]? with | none => false | some s => decide (o.count s < (l.take (k + 1)).count s)
theorem exF_at {l o : List Str} {k : Nat} {s : Str} (h : l[k]? = some s) : exF l o k = decide (o.count s < (l.take (k + 1)).count s) := by unfold exF; rw [h]
theorem extra_eq (l o : List Str) : extra l o = firstAt (exF l o) l.length := rfl
theorem count_q (a : Value) (xs : List Str) (q : Nat) (s : Str) (w : World) (n m : Nat) (ha : Strs w a xs) (hq : q ≤ xs.length) :
    Calls Tryz.prog 48 #[a, .int .i64 (q : Int), .string ⟨s.toArray⟩] (w.drewN (n + m)) fun e w'' => e = .returned (.int .i64 (((xs.take q).count s : Nat) : Int)) ∧ ∃ k, w'' = w.drewN (n + k) :=
  (count_any a xs q s (w.drewN (n + m)) (ha.drewN _) hq).mono fun _ _ ⟨he, hk⟩ => ⟨he, m, hk.symm⟩
set_option maxHeartbeats 4000000 in
theorem extra_any (a b : Value) (xs ys : List Str) (w : World) (ha : Strs w a xs) (hb : Strs w b ys) :
    Calls Tryz.prog 23 #[a, b] w fun e w' => e = .returned (.int .i64 (extra xs ys)) ∧ ∃ n, w' = w.drewN n := by
  have HA := Lib.hid ha
  have HB := Lib.hid hb
  obtain ⟨aa, ca, rfl, hma0, hca⟩ := ha
  obtain ⟨ab, cb, rfl, hmb0, hcb⟩ := hb
  have hma : xs.length ≤ 2 ^ 63 - 1 := Nat.le_trans hma0.1 hma0.2
  have hmb : ys.length ≤ 2 ^ 63 - 1 := Nat.le_trans hmb0.1 hmb0.2
  clear hma0 hmb0 hcb
  go_enter Tryz.func23, Tryz.ntmps23
  go_wp2
  go_loopw [5] (fun i wr => ∃ k n : Nat, k ≤ xs.length ∧ i = .int .i64 k ∧ wr = w.drewN n ∧ Hid (∀ j, j < k → exF xs ys j = false)) (fun i _ => xs.length - (intOf i).toNat)
  case atStart => exact ⟨0, 0, Nat.zero_le _, rfl, rfl, fun j hj => absurd hj (Nat.not_lt_zero _)⟩
  case round =>
    obtain ⟨k, n, hk, rfl, rfl, HT⟩ := hrel
    by_cases hlt : k < xs.length
    · have b1 : (k : Int) < (xs.length : Int) := by omega
      obtain ⟨bx, ox, rfl, hcx⟩ := hca (by intro e; subst e; simp at hlt)
      have hxs : xs[k]? = some xs[k] := List.getElem?_eq_getElem hlt
      have hx := hcx k xs[k] hxs
      have HF := Lib.hid (exF_at (o := ys) hxs)
      clear hca hcx
      generalize xs[k] = x at *
      have HQ1 := Lib.hid (fun m => count_q (.slice (some ⟨bx, ox, none⟩) xs.length ca) xs (k + 1) x w n m HA.out (by omega))
      have HQ2 := Lib.hid (fun m => count_q (.slice ab ys.length cb) ys ys.length x w n m HB.out (Nat.le_refl _))
      rw [List.take_length] at HQ2
      have e1 : ((k + 1 : Nat) : Int) = (k : Int) + 1 := by omega
      rw [e1] at HQ1
      clear e1
      clear hxs
      generalize (xs.take (k + 1)).count x = c1 at *
      generalize ys.count x = c2 at *
      by_cases hgt : c2 < c1
      · have hgt' : (c2 : Int) < (c1 : Int) := by omega
        have HR : Hid (extra xs ys = (k : Int)) := by show _ = _; rw [extra_eq]; exact first_hit HT.out hlt (by rw [HF.out]; exact decide_eq_true hgt)
        go_wp2
        go_quiet (first | (go_at_call 48; with_reducible exact HQ1.out _) | (go_at_call 48; with_reducible exact HQ2.out _))
        go_wp2
        go_ret
        exact ⟨by rw [HR.out]; rfl, n + nq, by rw [World.drewN_drewN]⟩
      · have hgt' : ¬ (c2 : Int) < (c1 : Int) := by omega
        have HN : Hid (∀ j, j < k + 1 → exF xs ys j = false) := fun j hj => by
          by_cases hjk : j = k
          · rw [hjk, HF.out]; exact decide_eq_false hgt
          · exact HT.out j (by omega)
        go_wp2
        go_quiet (first | (go_at_call 48; with_reducible exact HQ1.out _) | (go_at_call 48; with_reducible exact HQ2.out _))
        go_wp2
        go_roundw
        case rel => exact ⟨k + 1, _, by omega, by go_num, rfl, HN⟩
        case measure => simp [intOf]; omega
    · obtain rfl : k = xs.length := by omega
      have HR : Hid (extra xs ys = -1) := by show _ = _; rw [extra_eq]; exact first_none HT.out
      clear hca
      go_wp2
      go_ret
      exact ⟨by rw [HR.out]; rfl, n, rfl⟩
end Go.Proofs.YtkekpiillbpciaaGreatDoor.KCount

/- At most 20 lines of at most 60 bytes: what the law's short says. -/
namespace Go.Proofs.YtkekpiillbpciaaGreatDoor.KShort
open Go Go.RowKit KeyMath Strs KNum
set_option maxRecDepth 100000
/-- what a yes of short says -/
def SPost (w : World) (l : List Str) (e : Ending) (w' : World) : Prop := ∃ b : Bool, e = .returned (.bool b) ∧ w = w' ∧ (b = true → l.length ≤ 20 ∧ ∀ x ∈ l, x.length ≤ 60)
set_option maxHeartbeats 4000000 in
theorem short_any (a : Value) (xs : List Str) (w : World) (ha : Strs w a xs) :
    Calls Tryz.prog 4 #[a] w (SPost w xs) := by
  obtain ⟨aa, ca, rfl, hma0, hca⟩ := ha
  have hma : xs.length ≤ 2 ^ 63 - 1 := Nat.le_trans hma0.1 hma0.2
  clear hma0
  go_enter Tryz.func4, Tryz.ntmps4
  go_wp2
  go_loop [3] (fun i => ∃ k : Nat, k ≤ xs.length ∧ k ≤ 21 ∧ i = .int .i64 k ∧ Hid (∀ x ∈ xs.take k, x.length ≤ 60)) (fun i => xs.length - (intOf i).toNat)
  case atStart => exact ⟨0, Nat.zero_le _, by omega, rfl, fun x hx => by simp at hx⟩
  case round =>
    obtain ⟨k, hk, hk21, rfl, HT⟩ := hrel
    by_cases h12 : k < xs.length ∧ k < 21
    · obtain ⟨h1, h2⟩ := h12
      have b1 : (k : Int) < (xs.length : Int) := by omega
      have b2 : (k : Int) < 21 := by omega
      obtain ⟨bx, ox, rfl, hcx⟩ := hca (by intro e; subst e; simp at h1)
      have hxs : xs[k]? = some xs[k] := List.getElem?_eq_getElem h1
      have hx := hcx k xs[k] hxs
      have HX := Lib.hid hxs
      clear hxs hca hcx
      generalize xs[k] = x at *
      have hsz : (⟨x.toArray⟩ : ByteArray).size = x.length := by simp [ByteArray.size]
      by_cases h60 : 60 < x.length
      · have h60' : (60 : Int) < (x.length : Int) := by omega
        go_wp2
        go_ret
        exact ⟨false, rfl, rfl, fun h => by cases h⟩
      · have h60' : ¬ (60 : Int) < (x.length : Int) := by omega
        have HN : Hid (∀ y ∈ xs.take (k + 1), y.length ≤ 60) := fun y hy => by
          rw [List.take_add_one, HX.out] at hy
          simp at hy
          rcases hy with hy | rfl
          · exact HT.out y hy
          · omega
        go_wp2
        go_round
        case rel => exact ⟨k + 1, by omega, by omega, by go_num, HN⟩
        case measure => simp [intOf]; omega
    · by_cases hl : xs.length ≤ 20
      · have hl' : (xs.length : Int) ≤ 20 := by omega
        have b1 : ¬ (k : Int) < (xs.length : Int) := by omega
        have HR : Hid (∀ x ∈ xs, x.length ≤ 60) := fun x hx => HT.out x (by rw [List.take_of_length_le (by omega)]; exact hx)
        clear hca
        go_wp2
        go_ret
        exact ⟨true, rfl, rfl, fun _ => ⟨hl, HR.out⟩⟩
      · have hl' : ¬ (xs.length : Int) ≤ 20 := by omega
        clear hca
        by_cases c1 : k < xs.length
        · have b1 : (k : Int) < (xs.length : Int) := by omega
          have b2 : ¬ (k : Int) < 21 := by omega
          go_wp2
          go_ret
          exact ⟨false, rfl, rfl, fun h => by cases h⟩
        · have b1 : ¬ (k : Int) < (xs.length : Int) := by omega
          go_wp2
          go_ret
          exact ⟨false, rfl, rfl, fun h => by cases h⟩
end Go.Proofs.YtkekpiillbpciaaGreatDoor.KShort

/- Two lists of reports that hold the same are equal: what the law's same says. -/
namespace Go.Proofs.YtkekpiillbpciaaGreatDoor.KSame
open Go Go.RowKit KeyMath Strs KNum
set_option maxRecDepth 100000
/-- slice value v reads as the reports rs -/
def Reps (w : World) (v : Value) (rs : List (Int × Int)) : Prop :=
  ∃ a c, v = .slice a rs.length c ∧ (rs.length ≤ c ∧ c ≤ maxLen) ∧ (rs ≠ [] → ∃ b off, a = some ⟨b, off, none⟩ ∧ ∀ j x, rs[j]? = some x → w.cell? ⟨b, off + j * 2, none⟩ = some (.int .i64 x.1) ∧ w.cell? ⟨b, off + j * 2 + 1, none⟩ = some (.int .i64 x.2))
set_option maxHeartbeats 4000000 in
theorem same_any (a b : Value) (rs : List (Int × Int)) (w : World) (ha : Reps w a rs) (hb : Reps w b rs) :
    Calls Tryz.prog 6 #[a, b] w fun e w' => e = .returned (.bool true) ∧ ∃ n, w' = w.drewN n := by
  obtain ⟨aa, ca, rfl, hma0, hca⟩ := ha
  obtain ⟨ab, cb, rfl, hmb0, hcb⟩ := hb
  have hma : rs.length ≤ 2 ^ 63 - 1 := Nat.le_trans hma0.1 hma0.2
  clear hma0 hmb0
  go_enter Tryz.func6, Tryz.ntmps6
  go_wp2
  go_loopw [5] (fun i wr => ∃ k n : Nat, k ≤ rs.length ∧ i = .int .i64 k ∧ wr = w.drewN n) (fun i _ => rs.length - (intOf i).toNat)
  case atStart => exact ⟨0, 0, Nat.zero_le _, rfl, rfl⟩
  case round =>
    obtain ⟨k, n, hk, rfl, rfl⟩ := hrel
    by_cases h1 : k < rs.length
    · have b1 : (k : Int) < (rs.length : Int) := by omega
      obtain ⟨bx, ox, rfl, hcx⟩ := hca (by intro e; subst e; simp at h1)
      obtain ⟨bY, oY, rfl, hcy⟩ := hcb (by intro e; subst e; simp at h1)
      have hxs : rs[k]? = some rs[k] := List.getElem?_eq_getElem h1
      obtain ⟨x1, x2⟩ := hcx k rs[k] hxs
      obtain ⟨y1, y2⟩ := hcy k rs[k] hxs
      clear hxs hca hcb hcx hcy
      generalize rs[k] = x at *
      go_wp2
      go_quiet (fail)
      go_wp2
      go_roundw
      case rel => exact ⟨k + 1, _, by omega, by go_num, rfl⟩
      case measure => simp [intOf]; omega
    · obtain rfl : k = rs.length := by omega
      clear hca hcb
      go_wp2
      go_ret
      exact ⟨rfl, n, rfl⟩
end Go.Proofs.YtkekpiillbpciaaGreatDoor.KSame
