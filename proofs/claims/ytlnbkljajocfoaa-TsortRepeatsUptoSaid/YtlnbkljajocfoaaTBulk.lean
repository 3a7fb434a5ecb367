/- What the bound on the bulk of the arguments gives for slices of pairs. No condition. -/
import Derived.Test.YtlnbkljajocfoaaBulk
import Derived.Test.YtlnbkljajocfoaaTPairs
import Derived.Deep.SlicePairs
namespace Go.Proofs.Ytlnbkljajocfoaa.TBulk
open Go Go.ChangeShapes Go.WideShapes Go.ChangeAt Go.RowKit Strs TPairs

def ptotal (ps : List (Str × Str)) : Nat := (ps.map fun p => p.1.length + p.2.length + 3).sum
theorem ptotal_cons (p : Str × Str) (ps : List (Str × Str)) : ptotal (p :: ps) = p.1.length + p.2.length + 3 + ptotal ps := by simp [ptotal]
theorem ptotal_facts : ∀ (ps : List (Str × Str)), ps.length ≤ ptotal ps ∧ ∀ p ∈ ps, p.1.length ≤ ptotal ps ∧ p.2.length ≤ ptotal ps
  | [] => ⟨Nat.zero_le _, fun p h => by cases h⟩
  | x :: ps => by
    obtain ⟨h1, h2⟩ := ptotal_facts ps
    rw [ptotal_cons]
    refine ⟨by simp; omega, fun p hp => ?_⟩
    rcases List.mem_cons.1 hp with h | h
    · subst h; omega
    · have := h2 p h; omega
def strV : Value → Str
  | .string s => s.data.toList
  | _ => []
theorem all_range {H : Type} {n : Nat} (D : Nat → DataW H) (f : Nat → Str × Str) (h : ∀ i, i < n → Rows.uptoBulk (D i) = (f i).1.length + (f i).2.length + 3) (l : List Nat) (hl : ∀ i ∈ l, i < n) : Rows.uptoBulkAll (l.map D) = ptotal (l.map f) := by
  induction l with
  | nil => simp [Rows.uptoBulkAll, ptotal]
  | cons a l ih =>
    rw [List.map_cons, List.map_cons, ptotal_cons]
    simp only [Rows.uptoBulkAll]
    rw [ih fun i hi => hl i (List.mem_cons_of_mem _ hi), h a (hl a (List.mem_cons_self ..))]
/-- a slice of pairs that came in: what it reads as, and its bulk -/
theorem of_trod {H : Type} {enc : TypeId × Value → H} {W : World} {a : Option Addr} {len cap : Nat} {d : DataW H} {p : List MemPlace}
    (h : DataW.Trod enc Try.prog W 0 (fun _ => true) true 22 (.slice a len cap) d p) : ∃ ps, Prs W (.slice a len cap) ps ∧ ptotal ps + 1 ≤ Rows.uptoBulk d := by
  obtain ⟨fuel, hf⟩ := h
  rcases Go.Deep.open_slice_pairs Try.underlying22 Try.underlying27 (by kernel_rfl) rfl rfl (by kernel_rfl) (by kernel_rfl) hf with ⟨hcs, hx⟩ | ⟨x, l, c, m, n, V0, V1, D0, D1, P0, P1, hcs, _, hl, hm, hmm, hx, hq⟩
  · simp [Value.cells] at hcs
    obtain ⟨rfl, rfl, rfl⟩ := hcs
    simp only [Prod.mk.injEq] at hx
    obtain ⟨rfl, _⟩ := hx
    exact ⟨[], Prs.nil W, by simp [ptotal, Rows.uptoBulk]⟩
  · simp [Value.cells] at hcs
    obtain ⟨rfl, rfl, rfl⟩ := hcs
    simp only [Prod.mk.injEq] at hx
    obtain ⟨rfl, _⟩ := hx
    simp only [if_true] at hmm
    subst hmm
    have hs : ∀ i, i < m → (∃ s : ByteArray, V0 i = .string s ∧ D0 i = .lit (.string s.data.toList)) ∧ ∃ s : ByteArray, V1 i = .string s ∧ D1 i = .lit (.string s.data.toList) := by
      intro i hi
      obtain ⟨-, -, h1, h2⟩ := hq i hi
      obtain ⟨s1, e1, e2, -⟩ := DataW.trod_string Try.underlying9 h1
      obtain ⟨s2, e3, e4, -⟩ := DataW.trod_string Try.underlying9 h2
      simp at e1 e2 e3 e4
      exact ⟨⟨s1, e1, e2.1⟩, ⟨s2, e3, e4.1⟩⟩
    have hlen : ((List.range len).map fun i => (strV (V0 i), strV (V1 i))).length = len := by simp
    refine ⟨(List.range len).map fun i => (strV (V0 i), strV (V1 i)), ⟨some x, m, by rw [hlen], ⟨by rw [hlen]; exact hl, hm⟩, fun hne => ?_⟩, ?_⟩
    · have hpos : 0 < len := by
        rcases Nat.eq_zero_or_pos len with h0 | h0
        · subst h0; simp at hne
        · exact h0
      obtain ⟨b, off, spot⟩ := x
      have h0 := (hq 0 (by omega)).1
      have hspot : spot = none := by simpa [Addr.add] using World.cell?_spot h0
      subst hspot
      refine ⟨b, off, rfl, fun j y hj => ?_⟩
      have hjl : j < len := by
        have := (List.getElem?_eq_some_iff.1 hj).1
        omega
      rw [List.getElem?_map, List.getElem?_range hjl] at hj
      simp only [Option.map_some, Option.some.injEq] at hj
      obtain ⟨h1, h2, -, -⟩ := hq j (by omega)
      obtain ⟨⟨s1, e1, -⟩, ⟨s2, e2, -⟩⟩ := hs j (by omega)
      have hadd : ∀ k, (⟨b, off, none⟩ : Addr).add k = ⟨b, off + k, none⟩ := fun k => by unfold Addr.add; split <;> simp_all
      rw [hadd] at h1 h2
      rw [e1] at h1 hj
      rw [e2] at h2 hj
      subst hj
      rw [Nat.mul_comm] at h1 h2
      exact ⟨h1, by rw [Nat.add_assoc]; exact h2⟩
    · simp only [Rows.uptoBulk]
      rw [all_range (n := len) _ (fun i => (strV (V0 i), strV (V1 i))) (fun i hi => ?_) _ (fun i hi => List.mem_range.1 hi)]
      · omega
      · obtain ⟨⟨s1, e1, d1⟩, ⟨s2, e2, d2⟩⟩ := hs i (by omega)
        rw [d1, d2, e1, e2]
        simp only [Rows.uptoBulk, Rows.uptoBulkAll, strV]
        omega
theorem pairs_le {H : Type} {ds : List (DataW H)} {d : DataW H} {ps : List (Str × Str)} (h : Rows.uptoSmall H ds = true) (hm : d ∈ ds) (hl : ptotal ps + 1 ≤ Rows.uptoBulk d) : ptotal ps ≤ 1048576 := by
  have h1 := Bulk.all h
  have h2 := Bulk.member hm
  omega
end Go.Proofs.Ytlnbkljajocfoaa.TBulk
