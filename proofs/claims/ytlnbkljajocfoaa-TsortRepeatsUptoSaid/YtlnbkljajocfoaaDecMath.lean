/- Plain mathematics of records one after the other: what Decode returns, and what Encode returns. No condition. -/
import Derived.Test.YtlnbkljajocfoaaCrcMath
namespace Go.Proofs.Ytlnbkljajocfoaa.Crc
/-- the strings of the records of r before the first one that is rejected, where that one lies, and its error -/
def dec : Nat → List UInt8 → List (List UInt8) × Nat × Int
  | 0, _ => ([], 0, 0)
  | f + 1, r => if r = [] then ([], 0, 0) else
      if (nextR r).2.2 = 0 then ((nextR r).1 :: (dec f (r.drop (nextR r).2.1)).1, (nextR r).2.1 + (dec f (r.drop (nextR r).2.1)).2.1, (dec f (r.drop (nextR r).2.1)).2.2)
      else ([], 0, (nextR r).2.2)
theorem dec_nil (f : Nat) : dec f [] = ([], 0, 0) := by cases f <;> simp [dec]
theorem dec_bad (f : Nat) (r : List UInt8) (hr : r ≠ []) (he : (nextR r).2.2 ≠ 0) : dec (f + 1) r = ([], 0, (nextR r).2.2) := by
  simp [dec, hr, he]
theorem dec_good (f : Nat) (r : List UInt8) (hr : r ≠ []) (he : (nextR r).2.2 = 0) : dec (f + 1) r = ((nextR r).1 :: (dec f (r.drop (nextR r).2.1)).1, (nextR r).2.1 + (dec f (r.drop (nextR r).2.1)).2.1, (dec f (r.drop (nextR r).2.1)).2.2) := by
  simp [dec, hr, he]
/-- a record that is accepted -/
theorem nextR_ok (r : List UInt8) (he : (nextR r).2.2 = 0) : 2 ≤ r.length ∧ size2 r ≤ 4096 ∧ size2 r + 6 ≤ r.length ∧ sealed (r.take (size2 r + 2)) = r.take (size2 r + 6) ∧ (nextR r).1 = (r.drop 2).take (size2 r) ∧ (nextR r).2.1 = size2 r + 6 := by
  by_cases h1 : r.length < 2
  · rw [nextR_short r h1] at he; cases he
  · by_cases h2 : 4096 < size2 r
    · rw [nextR_big r (by omega) h2] at he; cases he
    · by_cases h3 : r.length < size2 r + 6
      · rw [nextR_cut r (by omega) (by omega) h3] at he; cases he
      · by_cases h4 : sealed (r.take (size2 r + 2)) = r.take (size2 r + 6)
        · rw [nextR_good r (by omega) (by omega) (by omega) h4]
          exact ⟨by omega, by omega, by omega, h4, rfl, rfl⟩
        · rw [nextR_bad r (by omega) (by omega) (by omega) h4] at he; cases he
theorem nextR_size (r : List UInt8) (he : (nextR r).2.2 = 0) : 6 ≤ (nextR r).2.1 ∧ (nextR r).2.1 ≤ r.length ∧ (nextR r).1.length + 6 = (nextR r).2.1 := by
  obtain ⟨_, _, h3, _, h5, h6⟩ := nextR_ok r he
  rw [h5, h6]
  refine ⟨by omega, h3, ?_⟩
  simp; omega
theorem dec_fuel (f : Nat) : ∀ (g : Nat) (r : List UInt8), r.length ≤ f → r.length ≤ g → dec f r = dec g r := by
  induction f with
  | zero =>
    intro g r hf _
    have : r = [] := List.eq_nil_of_length_eq_zero (by omega)
    subst this
    rw [dec_nil, dec_nil]
  | succ f ih =>
    intro g r hf hg
    by_cases hr : r = []
    · subst hr; rw [dec_nil, dec_nil]
    · obtain ⟨g, rfl⟩ : ∃ g', g = g' + 1 := ⟨g - 1, by have := List.length_pos_iff.2 hr; omega⟩
      by_cases he : (nextR r).2.2 = 0
      · have hs := nextR_size r he
        rw [dec_good f r hr he, dec_good g r hr he, ih g (r.drop (nextR r).2.1) (by simp; omega) (by simp; omega)]
      · rw [dec_bad f r hr he, dec_bad g r hr he]
/-- what Decode returns -/
def decode (l : List UInt8) : List (List UInt8) × Nat × Int := dec l.length l
def decOff (l : List UInt8) : Int := if (decode l).2.2 = 0 then 0 else (decode l).2.1

/-- how far a loop over the records has come: the strings so far, at k -/
def Inv (l : List UInt8) (k : Nat) (pre : List (List UInt8)) : Prop :=
  ∃ f, (l.drop k).length ≤ f ∧ decode l = (pre ++ (dec f (l.drop k)).1, k + (dec f (l.drop k)).2.1, (dec f (l.drop k)).2.2) ∧ pre.length * 6 ≤ k ∧ k ≤ l.length
theorem inv_start (l : List UInt8) : Inv l 0 [] := ⟨l.length, by simp, by simp [decode], by simp, by omega⟩
theorem drop_ne (l : List UInt8) (k : Nat) (hk : k < l.length) : l.drop k ≠ [] := by
  intro e
  have := congrArg List.length e
  simp at this
  omega
theorem inv_step {l : List UInt8} {k : Nat} {pre : List (List UInt8)} (h : Inv l k pre) (hk : k < l.length) (he : (nextR (l.drop k)).2.2 = 0) :
    Inv l (k + (nextR (l.drop k)).2.1) (pre ++ [(nextR (l.drop k)).1]) := by
  obtain ⟨f, hf, hd, hp, hl⟩ := h
  have hne := drop_ne l k hk
  have hs := nextR_size _ he
  obtain ⟨f, rfl⟩ : ∃ f', f = f' + 1 := ⟨f - 1, by have := List.length_pos_iff.2 hne; omega⟩
  rw [dec_good f _ hne he, List.drop_drop] at hd
  refine ⟨f, ?_, ?_, ?_, ?_⟩
  · simp at hf hs ⊢; omega
  · rw [hd]; simp [Nat.add_assoc]
  · simp; omega
  · simp at hs; omega
theorem inv_bad {l : List UInt8} {k : Nat} {pre : List (List UInt8)} (h : Inv l k pre) (hk : k < l.length) (he : (nextR (l.drop k)).2.2 ≠ 0) :
    decode l = (pre, k, (nextR (l.drop k)).2.2) := by
  obtain ⟨f, hf, hd, hp, hl⟩ := h
  have hne := drop_ne l k hk
  obtain ⟨f, rfl⟩ : ∃ f', f = f' + 1 := ⟨f - 1, by have := List.length_pos_iff.2 hne; omega⟩
  rw [dec_bad f _ hne he] at hd
  rw [hd]; simp
theorem inv_end {l : List UInt8} {k : Nat} {pre : List (List UInt8)} (h : Inv l k pre) (hk : l.length ≤ k) : decode l = (pre, k, 0) := by
  obtain ⟨f, hf, hd, hp, hl⟩ := h
  have : l.drop k = [] := List.drop_eq_nil_of_le hk
  rw [this, dec_nil] at hd
  rw [hd]; simp
end Go.Proofs.Ytlnbkljajocfoaa.Crc
