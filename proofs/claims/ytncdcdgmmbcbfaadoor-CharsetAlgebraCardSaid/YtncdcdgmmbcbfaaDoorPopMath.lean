/- Plain mathematics: the number of set bits of a word, counted side by side. No condition. -/
import Derived.Test.YtncdcdgmmbcbfaaDoorListMath
namespace Go.Proofs.YtncdcdgmmbcbfaaDoor.Sets
def mk (c : Nat) : Nat → Nat
  | 0 => 0
  | n + 1 => c + 256 * mk c n
def bs (f : Nat → Nat) : Nat → Nat → Nat
  | 0, _ => 0
  | n + 1, x => f (x % 256) + 256 * bs f n (x / 256)
theorem and_split (a b : Nat) : a &&& b = 256 * (a / 256 &&& b / 256) + (a % 256 &&& b % 256) := by
  have h1 : (a &&& b) / 2 ^ 8 = a / 2 ^ 8 &&& b / 2 ^ 8 := Nat.and_div_two_pow
  have h2 : (a &&& b) % 2 ^ 8 = a % 2 ^ 8 &&& b % 2 ^ 8 := Nat.and_mod_two_pow
  have h3 := Nat.div_add_mod (a &&& b) 256
  rw [← h1, ← h2]
  omega
theorem and_mk (x c n : Nat) (hc : c < 256) : x &&& mk c (n + 1) = 256 * (x / 256 &&& mk c n) + (x % 256 &&& c) := by
  rw [and_split x (mk c (n + 1))]
  simp only [mk]
  rw [show (c + 256 * mk c n) / 256 = mk c n from by omega, show (c + 256 * mk c n) % 256 = c from by omega]
theorem low55 : ∀ t, t < 256 → t &&& 85 = t % 128 &&& 85 := by decide +kernel
theorem low33 : ∀ t, t < 256 → t &&& 51 = t % 64 &&& 51 := by decide +kernel
def f1 (y : Nat) : Nat := (y / 2 &&& 85) + (y &&& 85)
def f2 (y : Nat) : Nat := (y / 4 &&& 51) + (y &&& 51)
def f3 (y : Nat) : Nat := (y / 16 + y) % 16
theorem sum1 (n : Nat) : ∀ x, (x / 2 &&& mk 85 n) + (x &&& mk 85 n) = bs f1 n x := by
  induction n with
  | zero => intro x; simp [mk, bs]
  | succ n ih =>
    intro x
    rw [and_mk _ _ _ (by decide), and_mk _ _ _ (by decide), bs, ← ih, f1]
    have h1 : x / 2 / 256 = x / 256 / 2 := by omega
    have h2 : x / 2 % 256 &&& 85 = x % 256 / 2 &&& 85 := by
      rw [low55 _ (by omega), show x / 2 % 256 % 128 = x % 256 / 2 from by omega]
    rw [h1, h2]
    omega
theorem sum2 (n : Nat) : ∀ x, (x / 4 &&& mk 51 n) + (x &&& mk 51 n) = bs f2 n x := by
  induction n with
  | zero => intro x; simp [mk, bs]
  | succ n ih =>
    intro x
    rw [and_mk _ _ _ (by decide), and_mk _ _ _ (by decide), bs, ← ih, f2]
    have h1 : x / 4 / 256 = x / 256 / 4 := by omega
    have h2 : x / 4 % 256 &&& 51 = x % 256 / 4 &&& 51 := by
      rw [low33 _ (by omega), show x / 4 % 256 % 64 = x % 256 / 4 from by omega]
    rw [h1, h2]
    omega
def Good : Nat → Nat → Prop
  | 0, z => z = 0
  | n + 1, z => z % 16 ≤ 4 ∧ z % 256 / 16 ≤ 4 ∧ Good n (z / 256)
theorem Good.low (n : Nat) (z : Nat) (h : Good n z) : z % 16 ≤ 4 := by
  cases n with
  | zero => have : z = 0 := h; omega
  | succ n => exact h.1
theorem sum3 (n : Nat) : ∀ z, Good n z → (z / 16 + z) &&& mk 15 n = bs f3 n z := by
  induction n with
  | zero => intro z _; simp [mk, bs]
  | succ n ih =>
    intro z h
    obtain ⟨h1, h2, h3⟩ := h
    have h4 := h3.low
    rw [and_mk _ _ _ (by decide), bs, ← ih _ h3]
    have e1 : (z / 16 + z) / 256 = z / 256 / 16 + z / 256 := by omega
    have e2 : (z / 16 + z) % 256 = 16 * (z / 256 % 16) + (z % 256 / 16 + z % 256) := by omega
    have e3 : (16 * (z / 256 % 16) + (z % 256 / 16 + z % 256)) &&& 15 = f3 (z % 256) := by
      rw [show (15 : Nat) = 2 ^ 4 - 1 from rfl, Nat.and_two_pow_sub_one_eq_mod]
      unfold f3
      omega
    rw [e1, e2, e3]
    omega
theorem bs_mod (f : Nat → Nat) (hf : ∀ y, y < 256 → f y < 256) (n x : Nat) : bs f (n + 1) x % 256 = f (x % 256) ∧ bs f (n + 1) x / 256 = bs f n (x / 256) := by
  have := hf (x % 256) (by omega)
  simp only [bs]
  omega
theorem bs_comp (f g : Nat → Nat) (hf : ∀ y, y < 256 → f y < 256) (n : Nat) : ∀ x, bs g n (bs f n x) = bs (fun y => g (f y)) n x := by
  induction n with
  | zero => intro x; rfl
  | succ n ih =>
    intro x
    obtain ⟨h1, h2⟩ := bs_mod f hf n x
    rw [bs, h1, h2, ih]
    rfl
theorem bs_congr (f g : Nat → Nat) (h : ∀ y, y < 256 → f y = g y) (n : Nat) : ∀ x, bs f n x = bs g n x := by
  induction n with
  | zero => intro x; rfl
  | succ n ih => intro x; simp only [bs]; rw [h _ (by omega), ih]
theorem good_bs (f : Nat → Nat) (hf : ∀ y, y < 256 → f y < 256 ∧ f y % 16 ≤ 4 ∧ f y / 16 ≤ 4) (n : Nat) : ∀ x, Good n (bs f n x) := by
  induction n with
  | zero => intro x; rfl
  | succ n ih =>
    intro x
    obtain ⟨h1, h2⟩ := bs_mod f (fun y hy => (hf y hy).1) n x
    have h3 := hf (x % 256) (by omega)
    refine ⟨?_, by rw [h1]; exact h3.2.2, by rw [h2]; exact ih _⟩
    have : bs f (n + 1) x % 16 = bs f (n + 1) x % 256 % 16 := by omega
    rw [this, h1]
    exact h3.2.1
theorem f1_lt : ∀ y, y < 256 → f1 y < 256 := by decide +kernel
theorem f21 : ∀ y, y < 256 → f2 (f1 y) < 256 ∧ f2 (f1 y) % 16 ≤ 4 ∧ f2 (f1 y) / 16 ≤ 4 := by decide +kernel
theorem f321 : ∀ y, y < 256 → f3 (f2 (f1 y)) = pop 8 y := by decide +kernel
theorem side (x : Nat) : (((x / 2 &&& mk 85 8) + (x &&& mk 85 8)) / 4 &&& mk 51 8) + (((x / 2 &&& mk 85 8) + (x &&& mk 85 8)) &&& mk 51 8) = bs (fun y => f2 (f1 y)) 8 x := by
  rw [sum1, sum2, bs_comp f1 f2 f1_lt]
theorem side3 (z x : Nat) (hz : z = bs (fun y => f2 (f1 y)) 8 x) : (z / 16 + z) &&& mk 15 8 = bs (pop 8) 8 x := by
  subst hz
  rw [sum3 8 _ (good_bs _ f21 8 x), bs_comp _ _ (fun y hy => (f21 y hy).1)]
  exact bs_congr _ _ f321 8 x
theorem pop_mod (n : Nat) : ∀ x, pop n (x % 2 ^ n) = pop n x := by
  induction n with
  | zero => intro x; rfl
  | succ n ih =>
    intro x
    simp only [pop]
    have h1 : x % 2 ^ (n + 1) / 2 = x / 2 % 2 ^ n := by
      rw [Nat.pow_succ, Nat.mul_comm, Nat.mod_mul_right_div_self]
    have h2 : x % 2 ^ (n + 1) % 2 = x % 2 := by
      rw [Nat.pow_succ]
      exact Nat.mod_mul_left_mod x (2 ^ n) 2
    rw [h1, h2, ih]
theorem pop_add (m : Nat) : ∀ n x, pop (m + n) x = pop m x + pop n (x / 2 ^ m) := by
  induction m with
  | zero => intro n x; simp [pop]
  | succ m ih =>
    intro n x
    rw [show m + 1 + n = m + n + 1 from by omega]
    simp only [pop]
    rw [ih, Nat.div_div_eq_div_mul, Nat.pow_succ, Nat.mul_comm 2]
    omega
theorem pop_byte (n x : Nat) : pop (8 + n) x = pop 8 (x % 256) + pop n (x / 256) := by
  rw [pop_add, ← pop_mod 8 x]
theorem total_bytes (x : Nat) : ∃ y0 y1 y2 y3 y4 y5 y6 y7 : Nat, y0 ≤ 8 ∧ y1 ≤ 8 ∧ y2 ≤ 8 ∧ y3 ≤ 8 ∧ y4 ≤ 8 ∧ y5 ≤ 8 ∧ y6 ≤ 8 ∧ y7 ≤ 8 ∧ pop 64 x = y0 + y1 + y2 + y3 + y4 + y5 + y6 + y7 ∧
    bs (pop 8) 8 x = y0 + 256 * (y1 + 256 * (y2 + 256 * (y3 + 256 * (y4 + 256 * (y5 + 256 * (y6 + 256 * y7)))))) := by
  refine ⟨_, _, _, _, _, _, _, _, pop_le 8 (x % 256), pop_le 8 (x / 256 % 256), pop_le 8 (x / 256 / 256 % 256), pop_le 8 (x / 256 / 256 / 256 % 256), pop_le 8 (x / 256 / 256 / 256 / 256 % 256), pop_le 8 (x / 256 / 256 / 256 / 256 / 256 % 256), pop_le 8 (x / 256 / 256 / 256 / 256 / 256 / 256 % 256), pop_le 8 (x / 256 / 256 / 256 / 256 / 256 / 256 / 256 % 256), ?_, ?_⟩
  · have h0 : pop 64 x = pop 8 (x % 256) + pop 56 (x / 256) := pop_byte 56 x
    have h1 : pop 56 (x / 256) = pop 8 (x / 256 % 256) + pop 48 (x / 256 / 256) := pop_byte 48 _
    have h2 : pop 48 (x / 256 / 256) = pop 8 (x / 256 / 256 % 256) + pop 40 (x / 256 / 256 / 256) := pop_byte 40 _
    have h3 : pop 40 (x / 256 / 256 / 256) = pop 8 (x / 256 / 256 / 256 % 256) + pop 32 (x / 256 / 256 / 256 / 256) := pop_byte 32 _
    have h4 : pop 32 (x / 256 / 256 / 256 / 256) = pop 8 (x / 256 / 256 / 256 / 256 % 256) + pop 24 (x / 256 / 256 / 256 / 256 / 256) := pop_byte 24 _
    have h5 : pop 24 (x / 256 / 256 / 256 / 256 / 256) = pop 8 (x / 256 / 256 / 256 / 256 / 256 % 256) + pop 16 (x / 256 / 256 / 256 / 256 / 256 / 256) := pop_byte 16 _
    have h6 : pop 16 (x / 256 / 256 / 256 / 256 / 256 / 256) = pop 8 (x / 256 / 256 / 256 / 256 / 256 / 256 % 256) + pop 8 (x / 256 / 256 / 256 / 256 / 256 / 256 / 256) := pop_byte 8 _
    have h7 : pop 8 (x / 256 / 256 / 256 / 256 / 256 / 256 / 256) = pop 8 (x / 256 / 256 / 256 / 256 / 256 / 256 / 256 % 256) := (pop_mod 8 _).symm
    rw [h0, h1, h2, h3, h4, h5, h6, h7]
    simp only [Nat.add_assoc]
  · simp only [bs, Nat.mul_zero, Nat.add_zero]
end Go.Proofs.YtncdcdgmmbcbfaaDoor.Sets
