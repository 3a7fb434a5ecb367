/- Plain mathematics of sets of bytes as four words of 64 bits. No condition. -/
namespace Go.Proofs.YtcnclcfglfgjlaaGreatDoor.Sets
def ofBits (f : Nat → Bool) : Nat → Nat
  | 0 => 0
  | n + 1 => 2 ^ n * (if f n then 1 else 0) + ofBits f n
theorem ofBits_lt (f : Nat → Bool) (n : Nat) : ofBits f n < 2 ^ n := by
  induction n with
  | zero => exact Nat.one_pos
  | succ n ih =>
    simp only [ofBits, Nat.pow_succ]
    split <;> omega
theorem testBit_ofBits (f : Nat → Bool) (n i : Nat) : (ofBits f n).testBit i = (decide (i < n) && f i) := by
  induction n with
  | zero => simp [ofBits]
  | succ n ih =>
    rw [ofBits, Nat.two_pow_add_eq_or_of_lt (ofBits_lt f n), Nat.testBit_or, ih, Nat.testBit_two_pow_mul]
    by_cases h : i < n
    · have h1 : ¬ n ≤ i := by omega
      have h2 : i < n + 1 := by omega
      simp [h, h1, h2]
    · by_cases h' : i = n
      · subst h'
        cases f i <;> simp
      · have h1 : n ≤ i := by omega
        have h2 : ¬ i < n + 1 := by omega
        have h3 : 1 ≤ i - n := by omega
        cases f n
        · simp [h, h2]
        · have : (1 : Nat).testBit (i - n) = false := by
            apply Nat.testBit_lt_two_pow
            exact Nat.lt_of_lt_of_le (by decide : 1 < 2 ^ 1) (Nat.pow_le_pow_right (by decide) h3)
          simp [h, h2, this]
/-- word j of a set -/
def wordOf (p : Nat → Bool) (j : Nat) : Nat := ofBits (fun i => p (64 * j + i)) 64
theorem wordOf_lt (p : Nat → Bool) (j : Nat) : wordOf p j < 18446744073709551616 := ofBits_lt _ 64
theorem testBit_wordOf (p : Nat → Bool) (j i : Nat) : (wordOf p j).testBit i = (decide (i < 64) && p (64 * j + i)) := testBit_ofBits _ 64 i
theorem high (x i : Nat) (h : x < 18446744073709551616) (hi : ¬ i < 64) : x.testBit i = false :=
  Nat.testBit_lt_two_pow (Nat.lt_of_lt_of_le h (Nat.pow_le_pow_right (n := 2) (i := 64) (j := i) (by decide) (by omega)))
theorem word_ext (x y : Nat) (hx : x < 18446744073709551616) (hy : y < 18446744073709551616) (h : ∀ i, i < 64 → x.testBit i = y.testBit i) : x = y := by
  apply Nat.eq_of_testBit_eq
  intro i
  by_cases hi : i < 64
  · exact h i hi
  · rw [high x i hx hi, high y i hy hi]
theorem word_of (x : Nat) (hx : x < 18446744073709551616) (p : Nat → Bool) (j : Nat) (h : ∀ i, i < 64 → x.testBit i = p (64 * j + i)) : x = wordOf p j :=
  word_ext x _ hx (wordOf_lt p j) fun i hi => by rw [testBit_wordOf, h i hi]; simp [hi]
theorem wordOf_congr (p q : Nat → Bool) (j : Nat) (h : ∀ i, i < 64 → p (64 * j + i) = q (64 * j + i)) : wordOf p j = wordOf q j :=
  word_of _ (wordOf_lt p j) q j fun i hi => by rw [testBit_wordOf, h i hi]; simp [hi]
theorem word_or (p q : Nat → Bool) (j : Nat) : wordOf p j ||| wordOf q j = wordOf (fun c => p c || q c) j :=
  word_of _ (Nat.or_lt_two_pow (n := 64) (wordOf_lt p j) (wordOf_lt q j)) _ j fun i hi => by
    rw [Nat.testBit_or, testBit_wordOf, testBit_wordOf]; simp [hi]
theorem word_and (p q : Nat → Bool) (j : Nat) : wordOf p j &&& wordOf q j = wordOf (fun c => p c && q c) j :=
  word_of _ (Nat.and_lt_two_pow (n := 64) _ (wordOf_lt q j)) _ j fun i hi => by
    rw [Nat.testBit_and, testBit_wordOf, testBit_wordOf]; simp [hi]
theorem testBit_not (x i : Nat) (hx : x < 18446744073709551616) (hi : i < 64) : (18446744073709551615 - x).testBit i = !x.testBit i := by
  have e : 18446744073709551615 - x = (~~~(BitVec.ofNat 64 x)).toNat := by
    rw [BitVec.toNat_not, BitVec.toNat_ofNat, Nat.mod_eq_of_lt (by simpa using hx)]
  rw [e]
  have h1 := BitVec.getLsbD_not (x := BitVec.ofNat 64 x) (i := i)
  simp only [BitVec.getLsbD, hi, decide_true, Bool.true_and] at h1
  rw [h1, BitVec.toNat_ofNat, Nat.mod_eq_of_lt (by simpa using hx)]
theorem word_not (p : Nat → Bool) (j : Nat) : 18446744073709551615 - wordOf p j = wordOf (fun c => !p c) j :=
  word_of _ (by omega) _ j fun i hi => by
    rw [testBit_not _ i (wordOf_lt p j) hi, testBit_wordOf]; simp [hi]
theorem word_andNot (p q : Nat → Bool) (j : Nat) : wordOf p j &&& (18446744073709551615 - wordOf q j) = wordOf (fun c => p c && !q c) j := by
  rw [word_not, word_and]
/-- a set and one byte more -/
def ins (p : Nat → Bool) (c : Nat) : Nat → Bool := fun d => p d || d == c
theorem word_ins_or (p : Nat → Bool) (c : Nat) : wordOf p (c / 64) ||| 2 ^ (c % 64) = wordOf (ins p c) (c / 64) :=
  word_of _ (Nat.or_lt_two_pow (n := 64) (wordOf_lt p _) (Nat.pow_lt_pow_right (by decide) (by omega))) _ _ fun i hi => by
    rw [Nat.testBit_or, testBit_wordOf, Nat.testBit_two_pow]
    simp only [ins, hi, decide_true, Bool.true_and]
    congr 1
    rw [Bool.eq_iff_iff, decide_eq_true_iff, beq_iff_eq]
    omega
theorem word_ins_other (p : Nat → Bool) (c j : Nat) (h : j ≠ c / 64) : wordOf (ins p c) j = wordOf p j :=
  wordOf_congr _ _ j fun i hi => by
    have : (64 * j + i == c) = false := by
      rw [beq_eq_false_iff_ne]; intro e; apply h; omega
    simp [ins, this]
theorem word_ins_add (p : Nat → Bool) (c : Nat) (h : p c = false) : wordOf p (c / 64) + 2 ^ (c % 64) = wordOf (ins p c) (c / 64) := by
  rw [← word_ins_or]
  have hb : (wordOf p (c / 64)).testBit (c % 64) = false := by
    rw [testBit_wordOf, show 64 * (c / 64) + c % 64 = c from by omega, h]; simp
  generalize wordOf p (c / 64) = x at hb
  generalize c % 64 = r at hb
  have hx : x = 2 ^ r * (2 * (x / 2 ^ (r + 1))) + x % 2 ^ r := by
    have h1 := Nat.div_add_mod x (2 ^ r)
    have h2 : (x / 2 ^ r) % 2 = 0 := by
      rw [Nat.testBit_eq_decide_div_mod_eq] at hb
      have := of_decide_eq_false hb
      omega
    have h3 : x / 2 ^ (r + 1) = x / 2 ^ r / 2 := by rw [Nat.pow_succ, Nat.div_div_eq_div_mul]
    rw [h3, show 2 * (x / 2 ^ r / 2) = x / 2 ^ r from by omega]
    omega
  have hm : x % 2 ^ r < 2 ^ r := Nat.mod_lt _ (Nat.two_pow_pos r)
  have e1 : x + 2 ^ r = 2 ^ r * (2 * (x / 2 ^ (r + 1)) + 1) + x % 2 ^ r := by
    rw [Nat.mul_add, Nat.mul_one]; omega
  rw [e1, Nat.two_pow_add_eq_or_of_lt hm]
  apply Nat.eq_of_testBit_eq
  intro i
  have hxb : x.testBit i = ((2 ^ r * (2 * (x / 2 ^ (r + 1)))) ||| x % 2 ^ r).testBit i := by
    rw [← Nat.two_pow_add_eq_or_of_lt hm, ← hx]
  rw [Nat.testBit_or, Nat.testBit_or, hxb, Nat.testBit_or, Nat.testBit_two_pow_mul, Nat.testBit_two_pow_mul, Nat.testBit_two_pow]
  by_cases hi : r ≤ i
  · by_cases he : i = r
    · subst he
      simp [Nat.testBit_zero]
    · obtain ⟨k, rfl⟩ : ∃ k, i = r + (k + 1) := ⟨i - r - 1, by omega⟩
      have e3 : r + (k + 1) - r = k + 1 := by omega
      rw [e3, Nat.testBit_succ, Nat.testBit_succ]
      have d1 : (2 * (x / 2 ^ (r + 1)) + 1) / 2 = x / 2 ^ (r + 1) := by omega
      have d2 : (2 * (x / 2 ^ (r + 1))) / 2 = x / 2 ^ (r + 1) := by omega
      rw [d1, d2]
      simp
  · have h4 : decide (r = i) = false := by simp; omega
    simp [hi, h4]
/-- the set that four words hold -/
def ofWords (b : Nat → Nat) : Nat → Bool := fun c => (b (c / 64)).testBit (c % 64)
theorem word_ofWords (b : Nat → Nat) (j : Nat) (h : b j < 18446744073709551616) : wordOf (ofWords b) j = b j := by
  symm
  apply word_of _ h
  intro i hi
  simp only [ofWords]
  rw [show (64 * j + i) / 64 = j from by omega, show (64 * j + i) % 64 = i from by omega]
end Go.Proofs.YtcnclcfglfgjlaaGreatDoor.Sets
