/- Slices of pairs of strings: what they read as, and that they stay. No condition. -/
import Derived.Test.YtlnbkljajocfoaaTRefWords
namespace Go.Proofs.Ytlnbkljajocfoaa.TPairs
open Go Go.RowKit Strs TWords

abbrev Str := List UInt8
/-- the cells of pairs -/
def pcells (ps : List (Str × Str)) : List Value := ps.flatMap fun p => [.string ⟨p.1.toArray⟩, .string ⟨p.2.toArray⟩]
theorem pcells_length (ps : List (Str × Str)) : (pcells ps).length = 2 * ps.length := by
  induction ps with
  | nil => rfl
  | cons p ps ih => simp only [pcells, List.flatMap_cons, List.length_append, List.length_cons, List.length_nil] at ih ⊢; omega
theorem pcells_append (a b : List (Str × Str)) : pcells (a ++ b) = pcells a ++ pcells b := by simp [pcells]
theorem pcells_get (ps : List (Str × Str)) : ∀ (j : Nat) (x : Str × Str), ps[j]? = some x → (pcells ps)[2 * j]? = some (.string ⟨x.1.toArray⟩) ∧ (pcells ps)[2 * j + 1]? = some (.string ⟨x.2.toArray⟩) := by
  induction ps with
  | nil => intro j x h; simp at h
  | cons p ps ih =>
    intro j x h
    have e : pcells (p :: ps) = Value.string ⟨p.1.toArray⟩ :: Value.string ⟨p.2.toArray⟩ :: pcells ps := by simp [pcells]
    rw [e]
    cases j with
    | zero => simp at h; subst h; exact ⟨rfl, rfl⟩
    | succ j =>
      have := ih j x (by simpa using h)
      rw [show 2 * (j + 1) = 2 * j + 1 + 1 from by omega, show 2 * j + 1 + 1 + 1 = (2 * j + 1) + 1 + 1 from rfl]
      simp only [List.getElem?_cons_succ]
      exact this
/-- slice value v reads as the pairs ps -/
def Prs (w : World) (v : Value) (ps : List (Str × Str)) : Prop :=
  ∃ a c, v = .slice a ps.length c ∧ (ps.length ≤ c ∧ c ≤ maxLen) ∧ (ps ≠ [] → ∃ b off, a = some ⟨b, off, none⟩ ∧ ∀ j x, ps[j]? = some x → w.cell? ⟨b, off + 2 * j, none⟩ = some (.string ⟨x.1.toArray⟩) ∧ w.cell? ⟨b, off + 2 * j + 1, none⟩ = some (.string ⟨x.2.toArray⟩))
theorem Prs.keep {w w' : World} {v : Value} {ps : List (Str × Str)} (h : Prs w v ps) (hk : ∀ p : Addr, (w.cell? p).isSome = true → w'.cell? p = w.cell? p) : Prs w' v ps := by
  obtain ⟨a, c, rfl, hm, hc⟩ := h
  refine ⟨a, c, rfl, hm, fun hne => ?_⟩
  obtain ⟨b, off, rfl, hcell⟩ := hc hne
  exact ⟨b, off, rfl, fun j x hj => ⟨by rw [hk _ (by rw [(hcell j x hj).1]; rfl)]; exact (hcell j x hj).1, by rw [hk _ (by rw [(hcell j x hj).2]; rfl)]; exact (hcell j x hj).2⟩⟩
theorem Prs.below {w w' : World} {v : Value} {ps : List (Str × Str)} (h : Prs w v ps) (hb : Below w.heap.size w w') : Prs w' v ps :=
  h.keep fun p hp => hb.cell (by obtain ⟨x, hx⟩ := Option.isSome_iff_exists.1 hp; exact World.block_lt_of_cell? w p hx)
theorem Prs.nil (w : World) : Prs w (.slice none 0 0) [] := ⟨none, 0, rfl, ⟨Nat.le_refl _, Nat.zero_le _⟩, fun h => absurd rfl h⟩
theorem Prs.of_row {w : World} {base : Nat} {e : TypeId} {v : Value} {n : Nat} {ps : List (Str × Str)} (h : w.ownsRow base e 2 v n (pcells ps)) : Prs w v ps := by
  have hl : ps.length = n := by have := h.1; rw [pcells_length] at this; omega
  subst hl
  rcases h.2 with ⟨rfl, h0⟩ | ⟨g, cap, cur, rfl, hb, hg, hnc, hcm, hcs, htk⟩
  · have : ps = [] := List.eq_nil_of_length_eq_zero h0
    subst this
    exact Prs.nil w
  · refine ⟨_, cap, rfl, ⟨hnc, hcm⟩, fun _ => ⟨g, 0, rfl, fun j x hj => ?_⟩⟩
    have key : ∀ i u, (pcells ps)[i]? = some u → w.cell? ⟨g, 0 + i, none⟩ = some u := by
      intro i u hu
      rw [Nat.zero_add, cell_of_row w g i cur e (0, 0) hg]
      rw [← htk, List.getElem?_take] at hu
      split at hu
      · simpa using hu
      · cases hu
    have := pcells_get ps j x hj
    exact ⟨key _ _ this.1, by rw [Nat.add_assoc]; exact key _ _ this.2⟩
end Go.Proofs.Ytlnbkljajocfoaa.TPairs
