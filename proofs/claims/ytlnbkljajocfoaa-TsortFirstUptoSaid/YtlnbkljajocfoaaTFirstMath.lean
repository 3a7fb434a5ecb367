/- Plain law: a valid order is not less than the sort's order, by the order of naming. No condition. -/
import Derived.Test.YtlnbkljajocfoaaTOrderMath
namespace Go.Proofs.Ytlnbkljajocfoaa.TFirstMath
open Go Topo Strs TPairs TGraph TRead TPlace TCons TRefMath TRefStep TOut TValid TCycle TJudge TOrderMath

/-- where the end has no cycles, each step took the first free element -/
theorem run_plain (E : Edges) (n : Nat) : ∀ K, (run E n K).cycles = [] → (run E n K).order.length = K ∧ ∀ j f, (run E n K).order[j]? = some f → freeOf E n (run E n j).gone (run E n j).done = some f ∧ (run E n j).order = (run E n K).order.take j ∧ (run E n j).cycles = []
  | 0, _ => ⟨rfl, fun j f h => by simp [run, Topo.start] at h⟩
  | K + 1, hc => by
    have hstep : run E n (K + 1) = Topo.next E n (run E n K) := rfl
    rw [hstep] at hc ⊢
    unfold Topo.next at hc ⊢
    cases hf : freeOf E n (run E n K).gone (run E n K).done with
    | none => rw [hf] at hc; simp at hc
    | some f =>
      rw [hf] at hc
      obtain ⟨h1, h2⟩ := run_plain E n K hc
      refine ⟨by simp [h1], fun j g hj => ?_⟩
      have hj' : ((run E n K).order ++ [f])[j]? = some g := hj
      show freeOf E n (run E n j).gone (run E n j).done = some g ∧ (run E n j).order = ((run E n K).order ++ [f]).take j ∧ (run E n j).cycles = []
      by_cases hlt : j < (run E n K).order.length
      · rw [List.getElem?_append_left hlt] at hj'
        obtain ⟨h3, h4, h5⟩ := h2 j g hj'
        rw [List.take_append_of_le_length (by omega)]
        exact ⟨h3, h4, h5⟩
      · have hjl : j < ((run E n K).order ++ [f]).length := (List.getElem?_eq_some_iff.1 hj').1
        rw [List.length_append, List.length_singleton] at hjl
        have hje : j = (run E n K).order.length := by omega
        have hjK : j = K := by omega
        rw [List.getElem?_append_right (by omega), hje, Nat.sub_self] at hj'
        have hg : f = g := by simpa using hj'
        subst hg
        subst hjK
        exact ⟨hf, by rw [List.take_append_of_le_length (by omega), List.take_of_length_le (by omega)], hc⟩
theorem first_lt {ps : List (Str × Str)} {K : Nat} {other : List Str} (hmin : ∀ j, j < K → (run (rd ps).2 (rd ps).1.length j).order.length < (rd ps).1.length) (hl : (run (rd ps).2 (rd ps).1.length K).order.length = (rd ps).1.length) (hv : Valid ps other)
    (i : Nat) (a b : Str) (ht : ((run (rd ps).2 (rd ps).1.length K).order.map (nm (rd ps).1)).take i = other.take i) (ha : ((run (rd ps).2 (rd ps).1.length K).order.map (nm (rd ps).1))[i]? = some a) (hb : other[i]? = some b) (hab : a ≠ b) : place (rd ps).1 a < place (rd ps).1 b := by
  have hw := rd_wf ps
  have hn := rd_nodup ps
  obtain ⟨hg, hc⟩ := run_good hw K hmin
  have hcy : (run (rd ps).2 (rd ps).1.length K).cycles = [] := by
    refine Decidable.byContradiction fun hne => ?_
    cases hcy : (run (rd ps).2 (rd ps).1.length K).cycles with
    | nil => exact hne hcy
    | cons c cs =>
      obtain ⟨h1, h2⟩ := hg.rings c (by rw [hcy]; exact List.mem_cons_self ..)
      exact cyc_invalid h1 h2 _ hv
  obtain ⟨h1, h2⟩ := run_plain _ _ K hcy
  rw [List.getElem?_map] at ha
  cases hf : (run (rd ps).2 (rd ps).1.length K).order[i]? with
  | none => rw [hf] at ha; cases ha
  | some f =>
    rw [hf] at ha
    have hfa : nm (rd ps).1 f = a := Option.some.inj ha
    obtain ⟨h3, h4, h5⟩ := h2 i f hf
    have hik : i < K := by have := (List.getElem?_eq_some_iff.1 hf).1; omega
    obtain ⟨hgi, hci⟩ := run_good hw i (fun j hj => hmin j (by omega))
    obtain ⟨h6, h7⟩ := hci h5
    obtain ⟨v1, v2, v3, v4⟩ := hv
    have hbm := v2 b (List.mem_of_getElem? hb)
    have hx := List.idxOf_lt_length_of_mem hbm
    have hbn : nm (rd ps).1 ((rd ps).1.idxOf b) = b := nm_idx hbm
    have hfl : f < (rd ps).1.length := hg.lt f (List.mem_of_getElem? hf)
    have hoi : (run (rd ps).2 (rd ps).1.length i).order.map (nm (rd ps).1) = other.take i := by rw [h4, List.map_take, ht]
    have hmem : ∀ x, x < (rd ps).1.length → (x ∈ (run (rd ps).2 (rd ps).1.length i).order ↔ nm (rd ps).1 x ∈ other.take i) := by
      intro x hx
      rw [← hoi]
      constructor
      · intro h; exact List.mem_map.2 ⟨x, h, rfl⟩
      · intro h
        obtain ⟨y, hy, e⟩ := List.mem_map.1 h
        rw [← nm_inj hn (hgi.lt y hy) hx e]
        exact hy
    have hfree : (!(run (rd ps).2 (rd ps).1.length i).done ((rd ps).1.idxOf b) && need (rd ps).2 (run (rd ps).2 (rd ps).1.length i).gone ((rd ps).1.idxOf b) == 0) = true := by
      have hnd : (run (rd ps).2 (rd ps).1.length i).done ((rd ps).1.idxOf b) = false := by
        cases hd : (run (rd ps).2 (rd ps).1.length i).done ((rd ps).1.idxOf b) with
        | false => rfl
        | true =>
          exfalso
          have := (hmem _ hx).1 ((hgi.ords _).1 hd)
          rw [hbn] at this
          obtain ⟨j, hj⟩ := List.getElem?_of_mem this
          rw [List.getElem?_take] at hj
          split at hj
          · have := nodup_get v3 hj hb; omega
          · cases hj
      have hneed : need (rd ps).2 (run (rd ps).2 (rd ps).1.length i).gone ((rd ps).1.idxOf b) = 0 := by
        rw [need_zero]
        intro k hk he
        rw [h6 k hk, hgi.ords]
        have hke := hw.ends k hk
        have hka := hw.apart k hk
        rw [hmem _ hke.1]
        have h8 := v4 ((rd ps).2.getD k (0, 0)) (mem_of_getD hk rfl)
        rw [pos_idx hn hke.1 other v2, pos_idx hn hke.2 other v2] at h8
        have hbi : other.idxOf (nm (rd ps).1 ((rd ps).2.getD k (0, 0)).2) = i := by
          rw [he, hbn]
          exact idxOf_at hb fun j y hj hy e => by
            have := nodup_get v3 hb (by rw [← e]; exact hy)
            omega
        rw [hbi] at h8
        have hil : i < other.length := (List.getElem?_eq_some_iff.1 hb).1
        have hm : nm (rd ps).1 ((rd ps).2.getD k (0, 0)).1 ∈ other := List.idxOf_lt_length_iff.1 (by omega)
        have hget : other[other.idxOf (nm (rd ps).1 ((rd ps).2.getD k (0, 0)).1)]? = some (nm (rd ps).1 ((rd ps).2.getD k (0, 0)).1) := by
          rw [List.getElem?_eq_getElem (List.idxOf_lt_length_of_mem hm), List.getElem_idxOf]
        have hlt : other.idxOf (nm (rd ps).1 ((rd ps).2.getD k (0, 0)).1) < i := by
          rcases Nat.lt_or_ge (other.idxOf (nm (rd ps).1 ((rd ps).2.getD k (0, 0)).1)) i with h | h
          · exact h
          · exfalso
            have e : other.idxOf (nm (rd ps).1 ((rd ps).2.getD k (0, 0)).1) = i := by omega
            rw [e, hb] at hget
            have e2 := Option.some.inj hget
            rw [← hbn, he.symm] at e2
            exact hka (nm_inj hn hke.2 hke.1 e2).symm
        have : (other.take i)[other.idxOf (nm (rd ps).1 ((rd ps).2.getD k (0, 0)).1)]? = some (nm (rd ps).1 ((rd ps).2.getD k (0, 0)).1) := by
          rw [List.getElem?_take, if_pos hlt]
          exact hget
        exact List.mem_of_getElem? this
      rw [hnd, hneed]
      rfl
    obtain ⟨-, -, hmf⟩ := find_range h3
    have hfx : f ≤ (rd ps).1.idxOf b := by
      rcases Nat.lt_or_ge ((rd ps).1.idxOf b) f with h | h
      · rw [hmf _ h] at hfree; cases hfree
      · exact h
    have hne : f ≠ (rd ps).1.idxOf b := fun e => hab (by rw [← hfa, e, hbn])
    unfold place
    have ham : a ∈ (rd ps).1 := by rw [← hfa]; exact List.mem_of_getElem? (nm_at hfl)
    rw [if_pos ham, if_pos hbm]
    have : (rd ps).1.idxOf a = f := by rw [← hfa]; exact idx_nm hn hfl
    omega
end Go.Proofs.Ytlnbkljajocfoaa.TFirstMath
