/- Plain law: the order of the sort is valid exactly where there are no cycles; where there is a cycle no order is valid. No condition. -/
import Derived.Test.YtlnbkljajocfoaaTJudge
namespace Go.Proofs.Ytlnbkljajocfoaa.TOrderMath
open Go Topo Strs TPairs TGraph TRead TPlace TCons TRefMath TRefStep TOut TValid TRefValid TCycle TJudge

theorem ring_flat {R : Nat → Nat → Prop} {c : List Nat} (h : Ring R c) (h2 : 2 ≤ c.length) (f : Nat → Nat) (hf : ∀ a b, R a b → f a ≤ f b) : ∃ a b, c[0]? = some a ∧ c[1]? = some b ∧ a ≠ b ∧ f a = f b := by
  obtain ⟨a, ha⟩ : ∃ a, c[0]? = some a := ⟨_, List.getElem?_eq_getElem (by omega)⟩
  obtain ⟨b, hb⟩ : ∃ b, c[1]? = some b := ⟨_, List.getElem?_eq_getElem (by omega)⟩
  refine ⟨a, b, ha, hb, fun e => ?_, ?_⟩
  · subst e
    have := nodup_get h.2.1 ha hb
    omega
  · have h01 : f a ≤ f b := hf a b (h.2.2 0 a b ha (by rw [Nat.mod_eq_of_lt (by omega)]; exact hb))
    have key : ∀ i, i + 1 < c.length → ∀ x, c[i + 1]? = some x → f b ≤ f x := by
      intro i
      induction i with
      | zero => intro _ x hx; rw [hb] at hx; rw [Option.some.inj hx]; exact Nat.le_refl _
      | succ i ih =>
        intro hi x hx
        obtain ⟨y, hy⟩ : ∃ y, c[i + 1]? = some y := ⟨_, List.getElem?_eq_getElem (by omega)⟩
        have h1 := ih (by omega) y hy
        have h3 := hf y x (h.2.2 (i + 1) y x hy (by rw [Nat.mod_eq_of_lt (by omega)]; exact hx))
        omega
    obtain ⟨z, hz⟩ : ∃ z, c[c.length - 1]? = some z := ⟨_, List.getElem?_eq_getElem (by omega)⟩
    have h1 := key (c.length - 2) (by omega) z (by rw [show c.length - 2 + 1 = c.length - 1 from by omega]; exact hz)
    have h3 := hf z a (h.2.2 (c.length - 1) z a hz (by rw [show c.length - 1 + 1 = c.length from by omega, Nat.mod_self]; exact ha))
    omega
/-- where there is a cycle no order is valid -/
theorem cyc_invalid {ps : List (Str × Str)} {c : List Nat} (h : Ring (fun a b => (a, b) ∈ (rd ps).2) c) (h2 : 2 ≤ c.length) (order : List Str) : ¬ Valid ps order := by
  rintro ⟨h3, h4, h5, h6⟩
  have hends := TStart.rd_ends ps
  obtain ⟨a, b, ha, hb, hab, hf⟩ := ring_flat h h2 (fun x => (pos (rd ps).1 order).idxOf x) (fun a b hR => h6 (a, b) hR)
  obtain ⟨hal, hbl⟩ : a < (rd ps).1.length ∧ b < (rd ps).1.length := by
    have := hends (a, b) (h.2.2 0 a b ha (by rw [Nat.mod_eq_of_lt (by omega)]; exact hb))
    exact this
  have hnd : (pos (rd ps).1 order).Nodup := by
    have key : ∀ l : List Str, (∀ s ∈ l, s ∈ (rd ps).1) → l.Nodup → (pos (rd ps).1 l).Nodup := by
      intro l
      induction l with
      | nil => intro _ _; exact List.nodup_nil
      | cons s l ih =>
        intro hl hn
        have h1 := List.nodup_cons.1 hn
        unfold pos
        rw [List.map_cons, List.nodup_cons]
        refine ⟨fun hm => ?_, ih (fun x hx => hl x (List.mem_cons_of_mem _ hx)) h1.2⟩
        obtain ⟨t, ht, e⟩ := List.mem_map.1 hm
        have := idx_inj (hl t (List.mem_cons_of_mem _ ht)) (hl s (List.mem_cons_self ..)) e
        exact h1.1 (this ▸ ht)
    exact key order h4 h5
  have m1 := pos_all h4 hnd h3 a hal
  have m2 := pos_all h4 hnd h3 b hbl
  have e1 := List.getElem_idxOf (List.idxOf_lt_length_of_mem m1)
  have e2 := List.getElem_idxOf (List.idxOf_lt_length_of_mem m2)
  have hf' : (pos (rd ps).1 order).idxOf a = (pos (rd ps).1 order).idxOf b := hf
  apply hab
  rw [← e1, ← e2]
  congr 1
/-- what holds of every state without cycles -/
def Clean (E : Edges) (s : St) : Prop := s.cycles = [] → (∀ i, i < E.length → s.gone i = s.done (E.getD i (0, 0)).1) ∧ ∀ i, i < E.length → (E.getD i (0, 0)).2 ∈ s.order → s.order.idxOf (E.getD i (0, 0)).1 < s.order.idxOf (E.getD i (0, 0)).2
theorem clean_next {E : Edges} {n : Nat} {s : St} (hg : Topo.Good E n s) (h : Clean E s) : Clean E (Topo.next E n s) := by
  unfold Topo.next
  cases hf : freeOf E n s.gone s.done with
  | none =>
    intro hc
    simp at hc
  | some f =>
    intro hc
    obtain ⟨h1, h2⟩ := h hc
    obtain ⟨hfn, hfp, -⟩ := find_range hf
    have hd : s.done f = false := by simp at hfp; exact hfp.1
    have hneed : need E s.gone f = 0 := by simp at hfp; exact hfp.2
    have hfo : f ∉ s.order := fun hm => by rw [(hg.ords f).2 hm] at hd; cases hd
    refine ⟨fun i hi => ?_, fun i hi hm => ?_⟩
    · show rems s.gone (outof E f) i = (s.done (E.getD i (0, 0)).1 || (E.getD i (0, 0)).1 == f)
      rw [rems_eq, h1 i hi]
      congr 1
      by_cases e : (E.getD i (0, 0)).1 = f
      · rw [e]
        simp only [BEq.rfl, decide_eq_true_eq]
        exact (mem_outof E f i).2 ⟨hi, e⟩
      · rw [beq_eq_false_iff_ne.2 e]
        simp only [decide_eq_false_iff_not]
        exact fun hm => e ((mem_outof E f i).1 hm).2
    · show (s.order ++ [f]).idxOf _ < (s.order ++ [f]).idxOf _
      have hm' : (E.getD i (0, 0)).2 ∈ s.order ++ [f] := hm
      by_cases ho : (E.getD i (0, 0)).2 ∈ s.order
      · have h3 := h2 i hi ho
        have h4 := List.idxOf_lt_length_of_mem ho
        have h5 : (E.getD i (0, 0)).1 ∈ s.order := List.idxOf_lt_length_iff.1 (by omega)
        rw [List.idxOf_append, List.idxOf_append, if_pos ho, if_pos h5]
        exact h3
      · have he : (E.getD i (0, 0)).2 = f := by
          rcases List.mem_append.1 hm' with h3 | h3
          · exact absurd h3 ho
          · exact List.mem_singleton.1 h3
        have h3 := need_zero.1 hneed i hi he
        rw [h1 i hi] at h3
        have h5 := (hg.ords _).1 h3
        have h6 := List.idxOf_lt_length_of_mem h5
        rw [List.idxOf_append, List.idxOf_append, if_pos h5, if_neg ho]
        omega
theorem run_good {E : Edges} {n : Nat} (hw : Wf E n) : ∀ K, (∀ j, j < K → (run E n j).order.length < n) → Topo.Good E n (run E n K) ∧ Clean E (run E n K)
  | 0, _ => ⟨Topo.Good.start E n, fun _ => ⟨fun i _ => rfl, fun i _ h => by cases h⟩⟩
  | K + 1, h => by
    obtain ⟨h1, h2⟩ := run_good hw K fun j hj => h j (by omega)
    exact ⟨(h1.next hw (h K (by omega))).1, clean_next h1 h2⟩
theorem order_all {E : Edges} {n : Nat} {s : St} (hg : Topo.Good E n s) (hl : s.order.length = n) (x : Nat) (hx : x < n) : x ∈ s.order :=
  (full s.order (List.range n) hg.nodup (fun y hy => List.mem_range.2 (hg.lt y hy)) (by simp; omega)).2 x (List.mem_range.2 hx)
theorem pos_names {ls : List Str} (hn : ls.Nodup) : ∀ (l : List Nat), (∀ x ∈ l, x < ls.length) → pos ls (l.map (nm ls)) = l
  | [], _ => rfl
  | x :: l, h => by
    have ih := pos_names hn l fun y hy => h y (List.mem_cons_of_mem _ hy)
    unfold pos at ih ⊢
    rw [List.map_cons, List.map_cons, ih, idx_nm hn (h x (List.mem_cons_self ..))]
theorem names_nodup {ls : List Str} (hn : ls.Nodup) : ∀ (l : List Nat), (∀ x ∈ l, x < ls.length) → l.Nodup → (l.map (nm ls)).Nodup
  | [], _, _ => List.nodup_nil
  | x :: l, h, hl => by
    have h1 := List.nodup_cons.1 hl
    rw [List.map_cons, List.nodup_cons]
    refine ⟨fun hm => ?_, names_nodup hn l (fun y hy => h y (List.mem_cons_of_mem _ hy)) h1.2⟩
    obtain ⟨y, hy, e⟩ := List.mem_map.1 hm
    have := nm_inj hn (h y (List.mem_cons_of_mem _ hy)) (h x (List.mem_cons_self ..)) e
    exact h1.1 (this ▸ hy)
theorem order_valid {ps : List (Str × Str)} {K : Nat} (hmin : ∀ j, j < K → (run (rd ps).2 (rd ps).1.length j).order.length < (rd ps).1.length) (hl : (run (rd ps).2 (rd ps).1.length K).order.length = (rd ps).1.length) :
    Valid ps ((run (rd ps).2 (rd ps).1.length K).order.map (nm (rd ps).1)) ↔ (run (rd ps).2 (rd ps).1.length K).cycles = [] := by
  have hw := rd_wf ps
  have hn := rd_nodup ps
  obtain ⟨hg, hc⟩ := run_good hw K hmin
  constructor
  · intro hv
    refine Decidable.byContradiction fun hne => ?_
    cases hcy : (run (rd ps).2 (rd ps).1.length K).cycles with
    | nil => exact hne hcy
    | cons c cs =>
      obtain ⟨h1, h2⟩ := hg.rings c (by rw [hcy]; exact List.mem_cons_self ..)
      exact cyc_invalid h1 h2 _ hv
  · intro hcy
    obtain ⟨-, h2⟩ := hc hcy
    refine ⟨by rw [List.length_map]; exact hl, fun s hs => ?_, names_nodup hn _ hg.lt hg.nodup, fun e he => ?_⟩
    · obtain ⟨k, hk, rfl⟩ := List.mem_map.1 hs
      exact List.mem_of_getElem? (nm_at (hg.lt k hk))
    · rw [pos_names hn _ hg.lt]
      obtain ⟨i, hi⟩ := List.getElem?_of_mem he
      have hil := (List.getElem?_eq_some_iff.1 hi).1
      have hgd : (rd ps).2.getD i (0, 0) = e := by rw [List.getD_eq_getElem?_getD, hi]; rfl
      have h3 := h2 i hil
      rw [hgd] at h3
      have hee := TStart.rd_ends ps e he
      exact Nat.le_of_lt (h3 (order_all hg hl e.2 hee.2))
end Go.Proofs.Ytlnbkljajocfoaa.TOrderMath
