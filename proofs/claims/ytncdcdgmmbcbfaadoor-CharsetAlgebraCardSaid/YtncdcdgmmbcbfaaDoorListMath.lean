/- Plain mathematics: the bytes of a set in order, and their number. No condition. -/
import Derived.Test.YtncdcdgmmbcbfaaDoorSetMath
namespace Go.Proofs.YtncdcdgmmbcbfaaDoor.Sets
/-- the bytes below n that are in a set -/
def upTo (p : Nat → Bool) (n : Nat) : List Nat := (List.range n).filter p
theorem upTo_zero (p : Nat → Bool) : upTo p 0 = [] := rfl
theorem upTo_succ (p : Nat → Bool) (n : Nat) : upTo p (n + 1) = upTo p n ++ if p n then [n] else [] := by
  unfold upTo
  rw [List.range_succ, List.filter_append]
  simp [List.filter_cons]
theorem upTo_skip (p : Nat → Bool) (m n : Nat) (h : ∀ c, m ≤ c → c < n → p c = false) (hm : m ≤ n) : upTo p n = upTo p m := by
  induction n with
  | zero =>
    have : m = 0 := by omega
    rw [this]
  | succ n ih =>
    by_cases hmn : m = n + 1
    · rw [hmn]
    · rw [upTo_succ, h n (by omega) (by omega), ih (fun c h1 h2 => h c h1 (by omega)) (by omega)]
      simp
theorem upTo_hit (p : Nat → Bool) (m c : Nat) (h : ∀ d, m ≤ d → d < c → p d = false) (hm : m ≤ c) (hc : p c = true) : upTo p (c + 1) = upTo p m ++ [c] := by
  rw [upTo_succ, hc, upTo_skip p m c h hm]; rfl
theorem upTo_length_le (p : Nat → Bool) (n : Nat) : (upTo p n).length ≤ n := by
  have := List.length_filter_le p (List.range n)
  simpa [upTo] using this
theorem upTo_congr (p q : Nat → Bool) (n : Nat) (h : ∀ c, c < n → p c = q c) : upTo p n = upTo q n :=
  List.filter_congr fun c hc => h c (List.mem_range.1 hc)
/-- how many of the first n bits are set -/
def pop : Nat → Nat → Nat
  | 0, _ => 0
  | n + 1, x => x % 2 + pop n (x / 2)
theorem pop_le (n : Nat) : ∀ x, pop n x ≤ n := by
  induction n with
  | zero => intro x; exact Nat.le_refl _
  | succ n ih => intro x; simp only [pop]; have := ih (x / 2); omega
theorem pop_upTo (n : Nat) : ∀ (p : Nat → Bool) (x : Nat), (∀ i, i < n → x.testBit i = p i) → pop n x = (upTo p n).length := by
  induction n with
  | zero => intro p x _; rfl
  | succ n ih =>
    intro p x h
    simp only [pop]
    rw [ih (fun i => p (i + 1)) (x / 2) (fun i hi => by rw [← Nat.testBit_succ]; exact h (i + 1) (by omega))]
    unfold upTo
    rw [List.range_succ_eq_map, List.filter_cons, List.filter_map]
    have h0 := h 0 (by omega)
    rw [Nat.testBit_zero] at h0
    have e : (p ∘ Nat.succ) = fun i => p (i + 1) := rfl
    rw [e]
    cases hp : p 0
    · rw [hp] at h0
      have : x % 2 = 0 := by have := of_decide_eq_false h0; omega
      simp [this]
    · rw [hp] at h0
      have : x % 2 = 1 := of_decide_eq_true h0
      simp [this]; omega
theorem upTo_word (p : Nat → Bool) (j : Nat) : (upTo p (64 * (j + 1))).length = (upTo p (64 * j)).length + pop 64 (wordOf p j) := by
  rw [pop_upTo 64 (fun i => p (64 * j + i)) (wordOf p j) (fun i hi => by rw [testBit_wordOf]; simp [hi])]
  unfold upTo
  rw [show 64 * (j + 1) = 64 * j + 64 from by omega, List.range_add, List.filter_append, List.filter_map, List.length_append, List.length_map]
  rfl
/-- the bytes from m on that are in word j -/
def Rest (p : Nat → Bool) (j m w : Nat) : Prop := 64 * j ≤ m ∧ m ≤ 64 * (j + 1) ∧ w < 18446744073709551616 ∧ ∀ i, i < 64 → w.testBit i = (p (64 * j + i) && decide (m ≤ 64 * j + i))
theorem rest_start (p : Nat → Bool) (j : Nat) : Rest p j (64 * j) (wordOf p j) :=
  ⟨by omega, by omega, wordOf_lt p j, fun i hi => by rw [testBit_wordOf]; simp [hi]⟩
theorem rest_end (p : Nat → Bool) (j m : Nat) (h : Rest p j m 0) : upTo p (64 * (j + 1)) = upTo p m := by
  obtain ⟨h1, h2, _, h4⟩ := h
  apply upTo_skip p m _ _ h2
  intro c hc1 hc2
  have := h4 (c - 64 * j) (by omega)
  rw [show 64 * j + (c - 64 * j) = c from by omega, Nat.zero_testBit] at this
  simpa [hc1] using this.symm
theorem clear_low (k m i : Nat) : ((2 ^ k * (2 * m + 1)) &&& (2 ^ k * (2 * m + 1) - 1)).testBit i = ((2 ^ k * (2 * m + 1)).testBit i && !decide (i = k)) := by
  have hp := Nat.two_pow_pos k
  have e1 : 2 ^ k * (2 * m + 1) - 1 = 2 ^ k * (2 * m) + (2 ^ k - 1) := by rw [Nat.mul_add]; omega
  rw [e1, Nat.two_pow_add_eq_or_of_lt (by omega), Nat.testBit_and, Nat.testBit_or, Nat.testBit_two_pow_mul, Nat.testBit_two_pow_mul, Nat.testBit_two_pow_sub_one]
  by_cases hi : k ≤ i
  · have h1 : ¬ i < k := by omega
    by_cases he : i = k
    · subst he; simp [Nat.testBit_zero]
    · obtain ⟨r, rfl⟩ : ∃ r, i = k + (r + 1) := ⟨i - k - 1, by omega⟩
      rw [show k + (r + 1) - k = r + 1 from by omega, Nat.testBit_succ, Nat.testBit_succ, show (2 * m + 1) / 2 = m from by omega, show 2 * m / 2 = m from by omega]
      simp
      intro h; exact .inl h
  · simp [hi]
theorem low_bit (k m i : Nat) (hi : i ≤ k) : (2 ^ k * (2 * m + 1)).testBit i = decide (i = k) := by
  rw [Nat.testBit_two_pow_mul]
  by_cases he : i = k
  · subst he; simp [Nat.testBit_zero]
  · have : ¬ k ≤ i := by omega
    simp [this, he]
theorem rest_step (p : Nat → Bool) (j m k d : Nat) (hk : k < 64) (h : Rest p j m (2 ^ k * (2 * d + 1))) :
    Rest p j (64 * j + k + 1) ((2 ^ k * (2 * d + 1)) &&& (2 ^ k * (2 * d + 1) - 1)) ∧ upTo p (64 * j + k + 1) = upTo p m ++ [64 * j + k] := by
  obtain ⟨h1, h2, h3, h4⟩ := h
  have hb := h4 k hk
  rw [low_bit k d k (Nat.le_refl _)] at hb
  simp only [decide_true] at hb
  have hb' := hb.symm
  rw [Bool.and_eq_true, decide_eq_true_iff] at hb'
  have hlow : ∀ c, m ≤ c → c < 64 * j + k → p c = false := by
    intro c hc1 hc2
    have := h4 (c - 64 * j) (by omega)
    rw [show 64 * j + (c - 64 * j) = c from by omega, low_bit k d _ (by omega)] at this
    have hne : decide (c - 64 * j = k) = false := by simp; omega
    rw [hne] at this
    simpa [hc1] using this.symm
  refine ⟨⟨by omega, by omega, Nat.lt_of_le_of_lt Nat.and_le_left h3, fun i hi => ?_⟩, upTo_hit p m _ hlow hb'.2 hb'.1⟩
  rw [clear_low, h4 i hi]
  by_cases hik : i = k
  · subst hik
    have : ¬ 64 * j + i + 1 ≤ 64 * j + i := by omega
    simp [this]
  · have hd : decide (i = k) = false := by simp [hik]
    rw [hd]
    by_cases hge : 64 * j + k + 1 ≤ 64 * j + i
    · have : m ≤ 64 * j + i := by omega
      simp [hge, this]
    · by_cases hm : m ≤ 64 * j + i
      · rw [hlow (64 * j + i) hm (by omega)]; simp
      · simp [hge, hm]
end Go.Proofs.YtncdcdgmmbcbfaaDoor.Sets
