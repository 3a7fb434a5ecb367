/- slices.Reverse turns a row of numbers round; no other block is written. -/
import Derived.Test.YtlnbkljajocfoaaTSlices
namespace Go.Proofs.Ytlnbkljajocfoaa.TReverse
open Go Go.RowKit Topo TWords TSlices

def RowF (w : World) (b off n : Nat) (f : Nat → Nat) : Prop := ∀ k, k < n → w.cell? ⟨b, off + k, none⟩ = some (.int .i64 (f k : Nat)) ∧ w.frozen? ⟨b, off + k, none⟩ = false
def half (f : Nat → Nat) (n q : Nat) : Nat → Nat := fun k => if k < q ∨ n - 1 - k < q then f (n - 1 - k) else f k
theorem half_step (f : Nat → Nat) (n q r : Nat) (h : q + r + 1 = n) (hqr : q < r) (k : Nat) (hk : k < n) : half f n (q + 1) k = if k = q then half f n q r else if k = r then half f n q q else half f n q k := by
  unfold half
  by_cases h1 : k = q
  · subst h1
    rw [if_pos rfl, if_pos (by omega), if_neg (by omega)]
    congr 1; omega
  · rw [if_neg h1]
    by_cases h2 : k = r
    · subst h2
      rw [if_pos rfl, if_pos (by omega), if_neg (by omega)]
      congr 1; omega
    · rw [if_neg h2]
      by_cases h3 : k < q ∨ n - 1 - k < q
      · rw [if_pos h3, if_pos (by omega)]
      · rw [if_neg h3, if_neg (by omega)]
theorem half_end (f : Nat → Nat) (n q r : Nat) (h : q + r + 1 = n) (hqr : ¬ q < r) (k : Nat) (hk : k < n) (hqr2 : q ≤ r + 1) : half f n q k = f (n - 1 - k) := by
  unfold half
  by_cases h3 : k < q ∨ n - 1 - k < q
  · rw [if_pos h3]
  · rw [if_neg h3]; congr 1; omega
theorem RowF.swap {w : World} {b off n : Nat} {f : Nat → Nat} {q r : Nat} (h : RowF w b off n f) (hq : q < n) (hr : r < n) (hqr : q ≠ r) (g : Nat → Nat) (hg : ∀ k, k < n → g k = if k = q then f r else if k = r then f q else f k) :
    RowF ((w.setCell ⟨b, off + q, none⟩ (.int .i64 (f r : Nat))).setCell ⟨b, off + r, none⟩ (.int .i64 (f q : Nat))) b off n g := by
  intro k hk
  obtain ⟨k0, kf⟩ := h k hk
  refine ⟨?_, by rw [World.frozen?_setCell, World.frozen?_setCell]; exact kf⟩
  rw [hg k hk]
  by_cases h2 : k = r
  · subst h2
    rw [if_neg (by omega), if_pos rfl]
    have : (w.setCell ⟨b, off + q, none⟩ (.int .i64 (f k : Nat))).cell? ⟨b, off + k, none⟩ = some (.int .i64 (f k : Nat)) := (World.cell?_setCell_other _ _ _ _ (by simp <;> omega)).trans k0
    rw [World.cell?_setCell_same _ _ _ this]
  · rw [World.cell?_setCell_other _ _ _ _ (by simp <;> omega)]
    by_cases h1 : k = q
    · subst h1
      rw [if_pos rfl, World.cell?_setCell_same _ _ _ k0]
    · rw [if_neg h1, if_neg h2, World.cell?_setCell_other _ _ _ _ (by simp <;> omega)]
      exact k0
theorem RowF.swap' {w : World} {b off n : Nat} {f : Nat → Nat} {q r : Nat} (h : RowF w b off n f) (hq : q < n) (hr : r < n) (hqr : q ≠ r) (g : Nat → Nat) (hg : ∀ k, k < n → g k = if k = q then f r else if k = r then f q else f k) :
    RowF ((w.setCell ⟨b, off + r, none⟩ (.int .i64 (f q : Nat))).setCell ⟨b, off + q, none⟩ (.int .i64 (f r : Nat))) b off n g :=
  h.swap hr hq (Ne.symm hqr) g fun k hk => by
    rw [hg k hk]
    by_cases h1 : k = q
    · subst h1; rw [if_pos rfl, if_neg hqr, if_pos rfl]
    · by_cases h2 : k = r
      · subst h2; rw [if_neg h1, if_pos rfl, if_pos rfl]
      · rw [if_neg h1, if_neg h2, if_neg h2, if_neg h1]
/-- what a call of Reverse leaves -/
def Only (w : World) (b : Nat) (w' : World) : Prop := (∀ k, k ≠ b → w'.heap[k]? = w.heap[k]?) ∧ w'.heap.size = w.heap.size ∧ w'.os = w.os ∧ w'.tape = w.tape ∧ w'.output = w.output
theorem Only.refl (w : World) (b : Nat) : Only w b w := ⟨fun _ _ => rfl, rfl, rfl, rfl, rfl⟩
theorem Only.drew {w w' : World} {b : Nat} (h : Only w b w') : Only w b w'.drew := h
theorem Only.set {w w' : World} {b : Nat} (h : Only w b w') (j : Nat) (u : Value) : Only w b (w'.setCell ⟨b, j, none⟩ u) :=
  ⟨fun k hk => (Below.heap_setCell _ _ _ _ hk).trans (h.1 k hk), by simp [World.setCell, h.2.1], h.2.2.1, h.2.2.2.1, h.2.2.2.2⟩

set_option maxHeartbeats 2000000 in
set_option maxRecDepth 100000 in
theorem reverse_any (b off n c : Nat) (f : Nat → Nat) (w : World) (h : RowF w b off n f) (hn : 1 ≤ n) (hc : n ≤ c ∧ c ≤ maxLen) :
    Calls Try.prog 38 #[.slice (some ⟨b, off, none⟩) n c] w fun e w' => e = .returned (.tuple #[]) ∧ RowF w' b off n (fun k => f (n - 1 - k)) ∧ Only w b w' := by
  have hc2 : c ≤ 9223372036854775807 := hc.2
  have hc1 := hc.1
  go_enter Try.func38, Try.ntmps38
  go_wp2
  go_loopw [2, 3] (fun i j wr => ∃ q r : Nat, q + r + 1 = n ∧ q ≤ r + 1 ∧ i = .int .i64 q ∧ j = .int .i64 r ∧ RowF wr b off n (half f n q) ∧ Only w b wr) (fun i _ _ => n - (intOf i).toNat)
  case atStart =>
    refine ⟨0, n - 1, by omega, by omega, rfl, congrArg (Value.int .i64) (by omega), fun k hk => ?_, Only.refl _ _⟩
    have : half f n 0 k = f k := by unfold half; rw [if_neg (by omega)]
    rw [this]
    exact h k hk
  case round =>
    obtain ⟨q, r, hqr, hle, rfl, rfl, hrow, hon⟩ := hrel
    by_cases hlt : q < r
    · have hst := Lib.hid (half_step f n q r hqr hlt)
      obtain ⟨k0, f0⟩ := hrow q (by omega)
      obtain ⟨k1, f1⟩ := hrow r (by omega)
      have hqi : (q : Int) < (n : Int) := by omega
      have hri : (r : Int) < (n : Int) := by omega
      have hr1 : (1 : Int) ≤ (r : Int) := by omega
      have HR := Lib.hid hrow
      generalize half f n q = F at *
      clear hrow h
      go_wp2_with fail
      go_region
      go_wp2
      go_roundw
      case rel =>
        refine ⟨q + 1, r - 1, by omega, by omega, by go_num, congrArg (Value.int .i64) (by omega), ?_, (hon.set _ _).set _ _⟩
        exact HR.out.swap (by omega) (by omega) (by omega) _ hst.out
      case measure => simp [intOf]; omega
    · have hE : RowF wr b off n (fun k => f (n - 1 - k)) := fun k hk => by
        have := hrow k hk
        rw [half_end f n q r hqr hlt k hk hle] at this
        exact this
      have HE := Lib.hid hE
      have hlt' : ¬ ((q : Int) < (r : Int)) := by omega
      clear hrow h hE
      go_wp2
      go_end0
      exact ⟨rfl, HE.out, hon⟩
end Go.Proofs.Ytlnbkljajocfoaa.TReverse
