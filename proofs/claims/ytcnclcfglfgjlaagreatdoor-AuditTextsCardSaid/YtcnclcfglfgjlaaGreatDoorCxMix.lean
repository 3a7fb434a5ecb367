/- A machine that runs a program's code on written inputs by computation alone, part 18: what operations that are carried out in any order have written. No condition. -/
import Derived.Test.YtcnclcfglfgjlaaGreatDoorCxGood
namespace Go.Proofs.YtcnclcfglfgjlaaGreatDoor.Cx
open Go

/-- what the steps of D below k have written over h, each at its places, in the order of their numbers -/
def mix {α : Type} (N : Nat → Nat → Bool) (R : Nat → Nat → α) (h : Nat → α) (D : Nat → Bool) : Nat → Nat → α
  | 0, b => h b
  | k + 1, b => if D k && N k b then R k b else mix N R h D k b
section
variable {α : Type} {N : Nat → Nat → Bool} {R : Nat → Nat → α} {h : Nat → α}
theorem mix_low {D D' : Nat → Bool} {b : Nat} : ∀ k, (∀ i, i < k → N i b = true → D i = D' i) → mix N R h D k b = mix N R h D' k b
  | 0, _ => rfl
  | k + 1, hk => by
    simp only [mix]
    rw [mix_low k fun i hi => hk i (by omega)]
    cases hn : N k b
    · simp
    · rw [hk k (by omega) hn]
theorem mix_high {D : Nat → Bool} {b k : Nat} : ∀ m, k ≤ m → (∀ i, k ≤ i → i < m → D i = true → N i b = false) → mix N R h D m b = mix N R h D k b
  | 0, hm, _ => by rw [Nat.le_zero.1 hm]
  | m + 1, hm, hh => by
    by_cases hk : k = m + 1
    · rw [hk]
    · simp only [mix]
      have : (D m && N m b) = false := by
        cases hd : D m
        · rfl
        · rw [hh m (by omega) (by omega) hd]; rfl
      rw [this]
      simp only [Bool.false_eq_true, if_false]
      exact mix_high m (by omega) fun i h1 h2 => hh i h1 (by omega)
theorem mix_out {D D' : Nat → Bool} {b k : Nat} (hD : ∀ i, i ≠ k → D' i = D i) (hb : N k b = false) : ∀ m, mix N R h D' m b = mix N R h D m b
  | 0 => rfl
  | m + 1 => by
    simp only [mix]
    rw [mix_out hD hb m]
    by_cases hm : m = k
    · subst hm; rw [hb]; simp
    · rw [hD m hm]
theorem mix_in {D D' : Nat → Bool} {b k : Nat} (hD : ∀ i, i ≠ k → D' i = D i) (hk : D' k = true) (hb : N k b = true) (m : Nat) (hkm : k < m) (hh : ∀ i, k < i → i < m → D i = true → N i b = false) : mix N R h D' m b = R k b := by
  rw [mix_high (k := k + 1) m hkm fun i h1 h2 h3 => hh i (by omega) h2 (by rw [← hD i (by omega)]; exact h3)]
  simp [mix, hk, hb]
theorem mix_none {b : Nat} (m : Nat) : mix N R h (fun _ => false) m b = h b := mix_high (k := 0) m (Nat.zero_le m) fun _ _ _ h => by cases h
end
theorem count_less {p q : Nat → Bool} {i : Nat} (hpq : ∀ j, q j = true → p j = true) (hp : p i = true) (hq : q i = false) : ∀ l : List Nat, i ∈ l → l.countP q < l.countP p
  | [], h => by cases h
  | a :: l, h => by
    have hle : l.countP q ≤ l.countP p := List.countP_mono_left fun j _ => hpq j
    rw [List.countP_cons, List.countP_cons]
    rcases List.mem_cons.1 h with rfl | h
    · rw [hp, hq]; simp; omega
    · have := count_less hpq hp hq l h
      cases hqa : q a
      · simp; omega
      · rw [hpq a hqa]; simp; omega
end Go.Proofs.YtcnclcfglfgjlaaGreatDoor.Cx
