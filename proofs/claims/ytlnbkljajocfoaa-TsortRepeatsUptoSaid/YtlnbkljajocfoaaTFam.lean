/- A family of rows of numbers that do not share a block, and what an append to one of them leaves. -/
import Derived.Test.YtlnbkljajocfoaaTMake
namespace Go.Proofs.Ytlnbkljajocfoaa.TFam
open Go Go.RowKit Topo TWords TGraph TRead TSorter TSlices TReverse TClone TCycle

/-- rows of numbers from block B on, two of which never share a block -/
structure Fam (B n : Nat) (val : Bool → Nat → Value) (lst : Bool → Nat → List Nat) (w : World) : Prop where
  own : ∀ b j, j < n → w.ownsRow B 3 1 (val b j) (lst b j).length (icells (lst b j))
  apart : ∀ b j c k, j < n → k < n → (b, j) ≠ (c, k) → ∀ g, (val b j).ownBlock = some g → (val c k).ownBlock ≠ some g
def upd {α : Type} (f : Bool → Nat → α) (b : Bool) (j : Nat) (x : α) : Bool → Nat → α := fun c k => if c = b ∧ k = j then x else f c k
theorem upd_same {α : Type} (f : Bool → Nat → α) (b : Bool) (j : Nat) (x : α) : upd f b j x b j = x := by simp [upd]
theorem upd_other {α : Type} (f : Bool → Nat → α) (b : Bool) (j : Nat) (x : α) (c : Bool) (k : Nat) (h : (c, k) ≠ (b, j)) : upd f b j x c k = f c k := by
  unfold upd
  rw [if_neg]
  rintro ⟨rfl, rfl⟩
  exact h rfl
theorem Fam.lt {B n : Nat} {val : Bool → Nat → Value} {lst : Bool → Nat → List Nat} {w : World} (h : Fam B n val lst w) (b : Bool) (j : Nat) (hj : j < n) : ∀ g, (val b j).ownBlock = some g → B ≤ g ∧ g < w.heap.size := ownsRow_block (h.own b j hj)
theorem Fam.keep {B n : Nat} {val : Bool → Nat → Value} {lst : Bool → Nat → List Nat} {w w' : World} (h : Fam B n val lst w) (hk : ∀ k, B ≤ k → k < w.heap.size → w'.heap[k]? = w.heap[k]?) : Fam B n val lst w' :=
  ⟨fun b j hj => ownsRow_keep (h.own b j hj) fun k hkk => hk k (h.lt b j hj k hkk).1 (h.lt b j hj k hkk).2, h.apart⟩
theorem Fam.append {B n : Nat} {val : Bool → Nat → Value} {lst : Bool → Nat → List Nat} {w w1 : World} {b : Bool} {j g cap H i : Nat} (h : Fam B n val lst w) (hj : j < n)
    (hown : w1.ownsRow B 3 1 (.slice (some ⟨g, 0, none⟩) ((lst b j).length + 1) cap) ((lst b j).length + 1) (icells (lst b j) ++ [.int .i64 (i : Nat)]))
    (hk : ∀ k, k < w.heap.size → (val b j).ownBlock ≠ some k → w1.heap[k]? = w.heap[k]?) (hat : (val b j).ownBlock = some g ∨ g = H) (hH : w.heap.size ≤ H) :
    Fam B n (upd val b j (.slice (some ⟨g, 0, none⟩) ((lst b j).length + 1) cap)) (upd lst b j (lst b j ++ [i])) w1 := by
  refine ⟨fun c k hk' => ?_, fun c k d l hk' hl hne x hx => ?_⟩
  · by_cases e : (c, k) = (b, j)
    · have e1 : c = b := congrArg Prod.fst e
      have e2 : k = j := congrArg Prod.snd e
      subst e1 e2
      rw [upd_same, upd_same]
      have : icells (lst c k ++ [i]) = icells (lst c k) ++ [.int .i64 (i : Nat)] := by rw [icells_append]; rfl
      rw [this, show (lst c k ++ [i]).length = (lst c k).length + 1 from by simp]
      exact hown
    · rw [upd_other _ _ _ _ _ _ e, upd_other _ _ _ _ _ _ e]
      exact ownsRow_keep (h.own c k hk') fun x hx => hk x (h.lt c k hk' x hx).2 (fun hx2 => h.apart c k b j hk' hj e x hx hx2)
  · by_cases e : (c, k) = (b, j)
    · have e1 : c = b := congrArg Prod.fst e
      have e2 : k = j := congrArg Prod.snd e
      subst e1 e2
      rw [upd_same] at hx
      rw [upd_other _ _ _ _ _ _ (Ne.symm hne)]
      have hg : g = x := by simpa [Value.ownBlock] using hx
      subst hg
      rcases hat with h1 | h1
      · exact h.apart c k d l hk' hl hne g h1
      · intro h2
        have := (h.lt d l hl g h2).2
        omega
    · rw [upd_other _ _ _ _ _ _ e] at hx
      by_cases e2 : (d, l) = (b, j)
      · have e3 : d = b := congrArg Prod.fst e2
        have e4 : l = j := congrArg Prod.snd e2
        subst e3 e4
        rw [upd_same]
        intro h2
        have hg : g = x := by simpa [Value.ownBlock] using h2
        subst hg
        rcases hat with h1 | h1
        · exact h.apart c k d l hk' hl hne g hx h1
        · have := (h.lt c k hk' g hx).2
          omega
      · rw [upd_other _ _ _ _ _ _ e2]
        exact h.apart c k d l hk' hl hne x hx
end Go.Proofs.Ytlnbkljajocfoaa.TFam
