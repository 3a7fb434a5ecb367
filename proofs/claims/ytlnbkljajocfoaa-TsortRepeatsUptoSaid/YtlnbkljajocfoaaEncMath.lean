/- Plain mathematics of encoding lines as records. No condition. -/
import Derived.Test.YtlnbkljajocfoaaDecMath
namespace Go.Proofs.Ytlnbkljajocfoaa.Crc
/-- the bytes of strings, and one for each -/
def total (ls : List (List UInt8)) : Nat := (ls.map fun l => l.length + 1).sum
theorem total_cons (l : List UInt8) (ls : List (List UInt8)) : total (l :: ls) = l.length + 1 + total ls := by simp [total]
theorem total_append (a b : List (List UInt8)) : total (a ++ b) = total a + total b := by simp [total]
theorem length_le_total (ls : List (List UInt8)) : ls.length ≤ total ls := by
  induction ls with
  | nil => simp [total]
  | cons l ls ih => rw [total_cons]; simp; omega
/-- no line is too long -/
def fits (ls : List (List UInt8)) : Prop := ∀ l ∈ ls, l.length ≤ 4096
instance (ls : List (List UInt8)) : Decidable (fits ls) := inferInstanceAs (Decidable (∀ l ∈ ls, l.length ≤ 4096))
/-- the records of all lines -/
def encL : List (List UInt8) → List UInt8
  | [] => []
  | l :: ls => record l ++ encL ls
theorem encL_append (a b : List (List UInt8)) : encL (a ++ b) = encL a ++ encL b := by
  induction a with
  | nil => rfl
  | cons l a ih => simp [encL, ih]
theorem encL_length (ls : List (List UInt8)) : (encL ls).length = total ls + 5 * ls.length := by
  induction ls with
  | nil => rfl
  | cons l ls ih => simp only [encL, List.length_append, record_length, total_cons, ih, List.length_cons]; omega
theorem encL_length_le (ls : List (List UInt8)) : (encL ls).length ≤ 6 * total ls := by
  have := encL_length ls
  have := length_le_total ls
  omega
theorem total_take (ls : List (List UInt8)) (k : Nat) : total (ls.take k) ≤ total ls := by
  have h : total (ls.take k ++ ls.drop k) = total (ls.take k) + total (ls.drop k) := total_append _ _
  rw [List.take_append_drop] at h
  omega
theorem take_snoc (ls : List (List UInt8)) (k : Nat) (h : k < ls.length) : ls.take (k + 1) = ls.take k ++ [ls[k]] := by
  rw [List.take_succ_eq_append_getElem h]
theorem encL_take (ls : List (List UInt8)) (k : Nat) (h : k < ls.length) : encL (ls.take (k + 1)) = encL (ls.take k) ++ record ls[k] := by
  rw [take_snoc ls k h, encL_append]; simp [encL]
/-- what Encode returns -/
def encStr (ls : List (List UInt8)) : List UInt8 := if fits ls then encL ls else []
def encErr (ls : List (List UInt8)) : Int := if fits ls then 0 else 3
theorem recStr_ok (l : List UInt8) (h : l.length ≤ 4096) : recStr l = record l ∧ recErr l = 0 := by
  unfold recStr recErr; rw [if_neg (by omega), if_neg (by omega)]; exact ⟨rfl, rfl⟩
theorem recStr_big (l : List UInt8) (h : 4096 < l.length) : recStr l = [] ∧ recErr l = 3 := by
  unfold recStr recErr; rw [if_pos h, if_pos h]; exact ⟨rfl, rfl⟩
theorem fits_take (ls : List (List UInt8)) (k : Nat) (h : k < ls.length) (hf : fits (ls.take k)) (hl : ls[k].length ≤ 4096) : fits (ls.take (k + 1)) := by
  intro l hm
  rw [take_snoc ls k h, List.mem_append] at hm
  rcases hm with hm | hm
  · exact hf l hm
  · rw [List.mem_singleton] at hm; subst hm; exact hl
theorem enc_bad (ls : List (List UInt8)) (k : Nat) (h : k < ls.length) (hl : 4096 < ls[k].length) : encStr ls = [] ∧ encErr ls = 3 := by
  have : ¬ fits ls := fun hf => by have := hf ls[k] (List.getElem_mem h); omega
  unfold encStr encErr; rw [if_neg this, if_neg this]; exact ⟨rfl, rfl⟩
theorem enc_good (ls : List (List UInt8)) (h : fits ls) : encStr ls = encL ls ∧ encErr ls = 0 := by
  unfold encStr encErr; rw [if_pos h, if_pos h]; exact ⟨rfl, rfl⟩
end Go.Proofs.Ytlnbkljajocfoaa.Crc
