/- Slices of strings that a call reads: what they hold, that they stay, and that SameTexts compares them. No condition. -/
import Derived.Test.YtlnbkljajocfoaaProg
import Derived.Test.YtlnbkljajocfoaaOwn
import Derived.WalkKit
import Derived.Handy
import Derived.Deep.QuietTactic
import Derived.BigQuiet
namespace Go.Proofs.Ytlnbkljajocfoaa.Strs
open Go Go.RowKit

/-- slice value v reads as the strings ls -/
def Strs (w : World) (v : Value) (ls : List (List UInt8)) : Prop :=
  ∃ a c, v = .slice a ls.length c ∧ (ls.length ≤ c ∧ c ≤ maxLen) ∧ (ls ≠ [] → ∃ b off, a = some ⟨b, off, none⟩ ∧ ∀ j x, ls[j]? = some x → w.cell? ⟨b, off + j, none⟩ = some (.string ⟨x.toArray⟩))
theorem Strs.keep {w w' : World} {v : Value} {ls : List (List UInt8)} (h : Strs w v ls) (hk : ∀ p : Addr, (w.cell? p).isSome = true → w'.cell? p = w.cell? p) : Strs w' v ls := by
  obtain ⟨a, c, rfl, hm, hc⟩ := h
  refine ⟨a, c, rfl, hm, fun hne => ?_⟩
  obtain ⟨b, off, rfl, hcell⟩ := hc hne
  exact ⟨b, off, rfl, fun j x hj => by rw [hk _ (by rw [hcell j x hj]; rfl)]; exact hcell j x hj⟩
theorem Strs.below {w w' : World} {v : Value} {ls : List (List UInt8)} (h : Strs w v ls) (hb : Below w.heap.size w w') : Strs w' v ls :=
  h.keep fun p hp => hb.cell (by obtain ⟨x, hx⟩ := Option.isSome_iff_exists.1 hp; exact World.block_lt_of_cell? w p hx)
theorem Strs.drewN {w : World} {v : Value} {ls : List (List UInt8)} (h : Strs w v ls) (n : Nat) : Strs (w.drewN n) v ls := h
theorem Strs.nil (w : World) : Strs w (.slice none 0 0) [] := ⟨none, 0, rfl, ⟨Nat.le_refl _, Nat.zero_le _⟩, fun h => absurd rfl h⟩
def cellsOf (ls : List (List UInt8)) : List Value := ls.map fun x => .string ⟨x.toArray⟩
theorem cellsOf_length (ls : List (List UInt8)) : (cellsOf ls).length = ls.length := by simp [cellsOf]
theorem cellsOf_append (a b : List (List UInt8)) : cellsOf (a ++ b) = cellsOf a ++ cellsOf b := by simp [cellsOf]
/-- what a call has made reads so -/
theorem Strs.of_row {w : World} {base : Nat} {e : TypeId} {v : Value} {n : Nat} {ls : List (List UInt8)} (h : Own.Row w base e 1 v n (cellsOf ls)) : Strs w v ls := by
  have hl : ls.length = n := by have := h.1; simpa [cellsOf_length] using this
  subst hl
  rcases h.2 with ⟨rfl, h0⟩ | ⟨g, cap, cur, fz, rfl, hb, hg, hfz, hnc, hcm, hcs, htk⟩
  · have : ls = [] := List.eq_nil_of_length_eq_zero h0
    subst this
    exact Strs.nil w
  · refine ⟨_, cap, rfl, ⟨hnc, hcm⟩, fun _ => ⟨g, 0, rfl, fun j x hj => ?_⟩⟩
    rw [Nat.zero_add, Own.cell_at w g j cur e fz hg]
    have hj2 : (cellsOf ls)[j]? = some (.string ⟨x.toArray⟩) := by simp [cellsOf, hj]
    rw [← htk, List.getElem?_take] at hj2
    split at hj2
    · simpa using hj2
    · cases hj2

/-- the first strings of a slice -/
theorem Strs.take {w : World} {a : Option Addr} {n c : Nat} {ls : List (List UInt8)} (h : Strs w (.slice a n c) ls) (k : Nat) (hk : k ≤ ls.length) : Strs w (.slice a k c) (ls.take k) := by
  obtain ⟨a', c', e, hm, hc⟩ := h
  injection e with e1 e2 e3
  subst e1 e2 e3
  have hl : (ls.take k).length = k := by simp; omega
  refine ⟨a, c, by rw [hl], by omega, fun hne => ?_⟩
  obtain ⟨b, off, e, hcell⟩ := hc (by intro e; subst e; simp at hne)
  exact ⟨b, off, e, fun j x hj => hcell j x (by rw [List.getElem?_take] at hj; split at hj; exact hj; cases hj)⟩

theorem take_succ {α : Type} {l m : List α} {k : Nat} {x y : α} (h : l.take k = m.take k) (hx : l[k]? = some x) (hy : m[k]? = some y) (e : x = y) : l.take (k + 1) = m.take (k + 1) := by
  rw [List.take_add_one, List.take_add_one, h, hx, hy, e]

set_option maxHeartbeats 400000 in
theorem same_any (a b : Value) (xs ys : List (List UInt8)) (w : World) (ha : Strs w a xs) (hb : Strs w b ys) :
    Calls Try.prog 14 #[a, b] w fun e w' => e = .returned (.bool (decide (xs = ys))) ∧ ∃ n, w' = w.drewN n := by
  obtain ⟨aa, ca, rfl, hma0, hca⟩ := ha
  obtain ⟨ab, cb, rfl, hmb0, hcb⟩ := hb
  have hma : xs.length ≤ 2 ^ 63 - 1 := Nat.le_trans hma0.1 hma0.2
  have hmb : ys.length ≤ 2 ^ 63 - 1 := Nat.le_trans hmb0.1 hmb0.2
  clear hma0 hmb0
  by_cases hl : xs.length = ys.length
  · have hl1 : ((xs.length : Int) != ys.length) = false := by simp [hl]
    have HL := Lib.hid hl
    clear hl
    go_enter Try.func14, Try.ntmps14
    go_wp2
    go_loopw [5] (fun i wr => ∃ k n : Nat, k ≤ xs.length ∧ i = .int .i64 k ∧ wr = w.drewN n ∧ xs.take k = ys.take k) (fun i _ => xs.length - (intOf i).toNat)
    case atStart => exact ⟨0, 0, Nat.zero_le _, rfl, rfl, rfl⟩
    case round =>
      obtain ⟨k, n, hk, rfl, rfl, htk⟩ := hrel
      have HT := Lib.hid htk
      clear htk
      by_cases hlt : k < xs.length
      · obtain ⟨bx, ox, rfl, hcx⟩ := hca (by intro e; subst e; simp at hlt)
        obtain ⟨bY, oY, rfl, hcy⟩ := hcb (by intro e; subst e; have := HL.out; simp at this; subst this; simp at hlt)
        have hx := hcx k xs[k] (List.getElem?_eq_getElem hlt)
        have hlt2 : k < ys.length := by have := HL.out; omega
        have hy := hcy k ys[k] (List.getElem?_eq_getElem hlt2)
        have hxs : xs[k]? = some xs[k] := List.getElem?_eq_getElem hlt
        have hys : ys[k]? = some ys[k] := List.getElem?_eq_getElem hlt2
        have HX := Lib.hid hxs
        have HY := Lib.hid hys
        clear hxs hys hca hcb hcx hcy
        generalize xs[k] = x at *
        generalize ys[k] = y at *
        have b1 : (k : Int) < (xs.length : Int) := by omega
        have b2 : (k : Int) < (ys.length : Int) := by omega
        by_cases he : x = y
        · have hq : (x == y) = true := by simp [he]
          have HE := Lib.hid he
          clear he
          go_wp2
          go_quiet (fail)
          go_wp2
          go_roundw
          case rel => exact ⟨k + 1, _, by omega, by go_num, rfl, take_succ HT.out HX.out HY.out HE.out⟩
          case measure => simp [intOf]; omega
        · have hq : (x == y) = false := by simp [he]
          have hne : decide (xs = ys) = false := by
            simp only [decide_eq_false_iff_not]
            intro e
            subst e
            have := HX.out.symm.trans HY.out
            injection this with this
            exact he this
          have HN := Lib.hid hne
          clear he hne
          go_wp2
          go_quiet (fail)
          go_wp2
          go_ret
          rw [HN.out]
          exact ⟨rfl, n + nq, by rw [World.drewN_drewN]⟩
      · have hxy : decide (xs = ys) = true := by
          simp only [decide_eq_true_eq]
          have h1 := HT.out
          rw [List.take_of_length_le (by omega), List.take_of_length_le (by have := HL.out; omega)] at h1
          exact h1
        have HN := Lib.hid hxy
        clear hxy
        go_wp2
        go_ret
        rw [HN.out]
        exact ⟨rfl, _, rfl⟩
  · have hl1 : ((xs.length : Int) != ys.length) = true := by simp; omega
    have hne : decide (xs = ys) = false := by
      simp only [decide_eq_false_iff_not]
      intro e; exact hl (by rw [e])
    have HN := Lib.hid hne
    clear hne hl
    go_enter Try.func14, Try.ntmps14
    go_wp2
    go_ret
    rw [HN.out]
    exact ⟨rfl, 0, rfl⟩
end Go.Proofs.Ytlnbkljajocfoaa.Strs
