/- Plain mathematics of words: the words of a list of bytes, taken byte by byte. No condition. -/
namespace Go.Proofs.Ytlnbkljajocfoaa.Wd
def isSp (b : Nat) : Bool := b == 32 || (b == 9 || b == 10)
/-- the bytes from f to t -/
def cut (s : List UInt8) (f : Int) (t : Nat) : List UInt8 := (s.drop f.toNat).take (t - f.toNat)
/-- an open word is ended -/
def fin (s : List UInt8) (p : List (List UInt8) × Int) (t : Nat) : List (List UInt8) × Int := if 0 ≤ p.2 then (p.1 ++ [cut s p.2 t], -1) else p
/-- after k bytes: the words, and where the open one begins (-1: none is open) -/
def st (s : List UInt8) : Nat → List (List UInt8) × Int
  | 0 => ([], -1)
  | k + 1 => if isSp (s.getD k 0).toNat then fin s (st s k) k else if (st s k).2 < 0 then ((st s k).1, (k : Int)) else st s k
def words (s : List UInt8) : List (List UInt8) := (fin s (st s s.length) s.length).1
/-- what holds on the way -/
def Ok (p : List (List UInt8) × Int) (k : Nat) : Prop := (p.2 = -1 ∨ 0 ≤ p.2) ∧ p.2 < k ∧ p.1.length ≤ k
theorem fin_ok {s : List UInt8} {p : List (List UInt8) × Int} {k : Nat} (h : Ok p k) : Ok (fin s p k) (k + 1) := by
  obtain ⟨h1, h2, h3⟩ := h
  unfold fin
  split
  · exact ⟨.inl rfl, by show (-1 : Int) < _; omega, by simp; omega⟩
  · exact ⟨h1, by omega, by omega⟩
theorem st_ok (s : List UInt8) : ∀ k, Ok (st s k) k
  | 0 => ⟨.inl rfl, by simp [st], by simp [st]⟩
  | k + 1 => by
    have ih := st_ok s k
    rw [st]
    split
    · exact fin_ok ih
    · split
      · exact ⟨.inr (by show (0 : Int) ≤ (k : Int); omega), by show ((k : Int)) < _; omega, by have := ih.2.2; show (st s k).1.length ≤ _; omega⟩
      · exact ⟨ih.1, by have := ih.2.1; omega, by have := ih.2.2; omega⟩
theorem words_length (s : List UInt8) : (words s).length ≤ s.length + 1 := (fin_ok (st_ok s s.length)).2.2
end Go.Proofs.Ytlnbkljajocfoaa.Wd
