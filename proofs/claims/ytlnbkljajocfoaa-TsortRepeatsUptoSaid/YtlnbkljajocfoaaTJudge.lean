/- Plain law: the reference's words on an order say what the program's say. No condition. -/
import Derived.Test.YtlnbkljajocfoaaTRefValid
import Derived.Test.YtlnbkljajocfoaaTRefStep
namespace Go.Proofs.Ytlnbkljajocfoaa.TJudge
open Go Topo Strs TPairs TGraph TRead TPlace TCons TRefMath TRefStep TOut TValid TRefValid TCycle

theorem full {α : Type} [BEq α] [LawfulBEq α] : ∀ (l m : List α), l.Nodup → (∀ x ∈ l, x ∈ m) → m.length ≤ l.length → m.Nodup ∧ ∀ x ∈ m, x ∈ l
  | [], m, _, _, h => by
    have : m = [] := List.eq_nil_of_length_eq_zero (by simpa using h)
    subst this
    exact ⟨List.nodup_nil, fun x hx => hx⟩
  | a :: l, m, hn, hs, h => by
    have h1 := List.nodup_cons.1 hn
    have ha := hs a (List.mem_cons_self ..)
    have hp := List.perm_cons_erase ha
    have hl := hp.length_eq
    simp only [List.length_cons] at hl h
    obtain ⟨i1, i2⟩ := full l (m.erase a) h1.2 (fun x hx => (List.mem_erase_of_ne (fun (e : x = a) => h1.1 (by rw [← e]; exact hx))).2 (hs x (List.mem_cons_of_mem _ hx))) (by omega)
    refine ⟨hp.nodup_iff.2 (List.nodup_cons.2 ⟨fun hm => h1.1 (i2 a hm), i1⟩), fun x hx => ?_⟩
    rcases List.mem_cons.1 (hp.mem_iff.1 hx) with e | e
    · rw [e]; exact List.mem_cons_self ..
    · exact List.mem_cons_of_mem _ (i2 x e)
theorem idx_nm {ls : List Str} (hn : ls.Nodup) {k : Nat} (hk : k < ls.length) : ls.idxOf (nm ls k) = k := by
  have h1 := nm_at hk
  have hm := List.mem_of_getElem? h1
  have h2 := List.idxOf_lt_length_of_mem hm
  have e : ls[ls.idxOf (nm ls k)]? = some (nm ls k) := by rw [List.getElem?_eq_getElem h2, List.getElem_idxOf]
  exact nodup_get hn e h1
theorem pos_idx {ls : List Str} (hn : ls.Nodup) {k : Nat} (hk : k < ls.length) : ∀ (order : List Str), (∀ s ∈ order, s ∈ ls) → (pos ls order).idxOf k = order.idxOf (nm ls k)
  | [], _ => rfl
  | s :: order, h => by
    have ih := pos_idx hn hk order fun x hx => h x (List.mem_cons_of_mem _ hx)
    have hs := h s (List.mem_cons_self ..)
    unfold pos at ih ⊢
    rw [List.map_cons, List.idxOf_cons, List.idxOf_cons, ih]
    by_cases e : s = nm ls k
    · rw [e, idx_nm hn hk]; simp
    · have : ls.idxOf s ≠ k := fun h' => e (by rw [← h']; exact (nm_idx hs).symm)
      rw [beq_eq_false_iff_ne.2 e, beq_eq_false_iff_ne.2 this]
theorem valid_iff (ps : List (Str × Str)) (order : List Str) : Valid ps order ↔ RValid ps order := by
  have hnd := rd_nodup ps
  have hends := TStart.rd_ends ps
  have hcons := cons_rd ps
  have key : (∀ s ∈ order, s ∈ (rd ps).1) → (∀ x ∈ (rd ps).1, x ∈ order) → ((∀ e ∈ (rd ps).2, (pos (rd ps).1 order).idxOf e.1 ≤ (pos (rd ps).1 order).idxOf e.2) ↔ ∀ p ∈ ps, p.1 ≠ p.2 → place order p.1 ≤ place order p.2) := by
    intro h1 h2
    have hpl : ∀ k, k < (rd ps).1.length → place order (nm (rd ps).1 k) = ((pos (rd ps).1 order).idxOf k : Nat) := fun k hk => by
      unfold place
      rw [if_pos (h2 _ (List.mem_of_getElem? (nm_at hk))), pos_idx hnd hk order h1]
    constructor
    · intro h p hp hne
      have hm : p ∈ cons ps := by
        unfold cons
        exact List.mem_filter.2 ⟨hp, by simpa using hne⟩
      rw [hcons] at hm
      obtain ⟨e, he, rfl⟩ := List.mem_map.1 hm
      have hee := hends e he
      show place order (nm (rd ps).1 e.1) ≤ place order (nm (rd ps).1 e.2)
      rw [hpl _ hee.1, hpl _ hee.2]
      have := h e he
      omega
    · intro h e he
      have hee := hends e he
      have hm : nmE (rd ps).1 e ∈ cons ps := by rw [hcons]; exact List.mem_map.2 ⟨e, he, rfl⟩
      unfold cons at hm
      obtain ⟨hp, hne⟩ := List.mem_filter.1 hm
      have := h _ hp (by simpa using hne)
      have h3 : place order (nm (rd ps).1 e.1) ≤ place order (nm (rd ps).1 e.2) := this
      rw [hpl _ hee.1, hpl _ hee.2] at h3
      omega
  constructor
  · rintro ⟨h1, h2, h3, h4⟩
    have h5 := full order (rd ps).1 h3 h2 (by omega)
    exact ⟨h1.symm, h5.2, (key h2 h5.2).1 h4⟩
  · rintro ⟨h1, h2, h3⟩
    have h5 := full (rd ps).1 order hnd h2 (by omega)
    exact ⟨h1.symm, h5.2, h5.1, (key h5.2 h2).2 h3⟩
end Go.Proofs.Ytlnbkljajocfoaa.TJudge
