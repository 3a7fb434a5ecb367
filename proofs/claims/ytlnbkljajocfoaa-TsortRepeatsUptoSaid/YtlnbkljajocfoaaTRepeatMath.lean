/- Plain law: constraints that are repeated behind the others change nothing. No condition. -/
import Derived.Test.YtlnbkljajocfoaaTJudge
namespace Go.Proofs.Ytlnbkljajocfoaa.TRepeatMath
open Go Topo Strs TPairs TGraph TRead TPlace TCons TRefMath TRefStep TOut TJudge

/-- two states that say the same, over constraints that say the same -/
def Same (E E' : Edges) (s s' : St) : Prop :=
  s.order = s'.order ∧ s.done = s'.done ∧ s.cycles = s'.cycles ∧ ∃ g : Nat × Nat → Bool, (∀ i, i < E.length → s.gone i = g (E.getD i (0, 0))) ∧ ∀ i, i < E'.length → s'.gone i = g (E'.getD i (0, 0))
theorem getD_mem {E : Edges} {e : Nat × Nat} (h : e ∈ E) : ∃ i, i < E.length ∧ E.getD i (0, 0) = e := by
  obtain ⟨i, hi⟩ := List.getElem?_of_mem h
  exact ⟨i, (List.getElem?_eq_some_iff.1 hi).1, by rw [List.getD_eq_getElem?_getD, hi]; rfl⟩
theorem need_val {E : Edges} {gone : Nat → Bool} {g : Nat × Nat → Bool} (hg : ∀ i, i < E.length → gone i = g (E.getD i (0, 0))) (j : Nat) : need E gone j = 0 ↔ ∀ e ∈ E, e.2 = j → g e = true := by
  rw [need_zero]
  constructor
  · intro h e he hj
    obtain ⟨i, hi, rfl⟩ := getD_mem he
    rw [← hg i hi]
    exact h i hi hj
  · intro h i hi hj
    rw [hg i hi]
    exact h _ (mem_of_getD hi rfl) hj
theorem prev_val {E : Edges} {gone : Nat → Bool} {g : Nat × Nat → Bool} (hg : ∀ i, i < E.length → gone i = g (E.getD i (0, 0))) (y : Nat) : prev E gone y = match E.find? (fun e => e.2 == y && !g e) with | some e => e.1 | none => y := by
  have hr : E = (List.range E.length).map fun i => E.getD i (0, 0) := by
    apply List.ext_getElem?
    intro i
    rw [List.getElem?_map]
    by_cases hi : i < E.length
    · rw [List.getElem?_range hi]
      show _ = some (E.getD i (0, 0))
      rw [List.getD_eq_getElem?_getD, List.getElem?_eq_getElem hi]
      rfl
    · rw [List.getElem?_eq_none (by omega), List.getElem?_eq_none (by simp; omega)]
      rfl
  have key : E.find? (fun e => e.2 == y && !g e) = ((into E y).find? fun i => !gone i).map fun i => E.getD i (0, 0) := by
    conv => lhs; rw [hr]
    unfold into idxs
    rw [List.find?_map, List.find?_filter]
    congr 1
    apply find_congr
    intro i hi
    have hi' := List.mem_range.1 hi
    show ((E.getD i (0, 0)).2 == y && !g (E.getD i (0, 0))) = decide (((E.getD i (0, 0)).2 == y) = true ∧ (!gone i) = true)
    rw [hg i hi']
    cases h1 : ((E.getD i (0, 0)).2 == y) <;> cases h2 : g (E.getD i (0, 0)) <;> simp
  rw [key]
  unfold prev
  cases (into E y).find? fun i => !gone i with
  | none => rfl
  | some i => rfl
theorem way_congr {E E' : Edges} {gone gone' : Nat → Bool} (h : ∀ y, prev E gone y = prev E' gone' y) : ∀ (f : Nat) (path : List Nat) (x : Nat), way E gone f path x = way E' gone' f path x
  | 0, _, _ => rfl
  | f + 1, path, x => by
    unfold way
    rw [h x, way_congr h f]
theorem find_app {E F : Edges} (hF : ∀ e ∈ F, e ∈ E) (p : Nat × Nat → Bool) : (E ++ F).find? p = E.find? p := by
  rw [List.find?_append]
  cases h : E.find? p with
  | some e => rfl
  | none =>
    show F.find? p = none
    rw [find_none_iff]
    intro e he
    exact find_none_iff.1 h e (hF e he)
theorem same_next {E F : Edges} (hF : ∀ e ∈ F, e ∈ E) (n : Nat) {s s' : St} (h : Same E (E ++ F) s s') : Same E (E ++ F) (Topo.next E n s) (Topo.next (E ++ F) n s') := by
  obtain ⟨h1, h2, h3, g, h4, h5⟩ := h
  have hneed : ∀ j, need E s.gone j = 0 ↔ need (E ++ F) s'.gone j = 0 := by
    intro j
    rw [need_val h4, need_val h5]
    constructor
    · intro h e he hj
      rcases List.mem_append.1 he with h6 | h6
      · exact h e h6 hj
      · exact h e (hF e h6) hj
    · intro h e he hj
      exact h e (List.mem_append_left _ he) hj
  have hfree : freeOf (E ++ F) n s'.gone s'.done = freeOf E n s.gone s.done := by
    unfold freeOf
    apply find_congr
    intro j _
    rw [h2]
    congr 1
    cases h6 : (need E s.gone j == 0) with
    | true =>
      have := (hneed j).1 (by simpa using h6)
      simpa using this
    | false =>
      have h7 : need E s.gone j ≠ 0 := by simpa using h6
      have : need (E ++ F) s'.gone j ≠ 0 := fun h8 => h7 ((hneed j).2 h8)
      simpa using this
  have hprev : ∀ y, prev (E ++ F) s'.gone y = prev E s.gone y := by
    intro y
    rw [prev_val h4, prev_val h5, find_app hF]
  unfold Topo.next
  rw [hfree]
  cases freeOf E n s.gone s.done with
  | some f =>
    refine ⟨by show _ = _; rw [h1], by show _ = _; rw [h2], h3, fun e => g e || e.1 == f, fun i hi => ?_, fun i hi => ?_⟩
    · show rems s.gone (outof E f) i = _
      rw [rems_eq, h4 i hi]
      congr 1
      cases h6 : ((E.getD i (0, 0)).1 == f) with
      | true => exact decide_eq_true ((mem_outof E f i).2 ⟨hi, by simpa using h6⟩)
      | false => exact decide_eq_false fun hm => by have := ((mem_outof E f i).1 hm).2; rw [this] at h6; simp at h6
    · show rems s'.gone (outof (E ++ F) f) i = _
      rw [rems_eq, h5 i hi]
      congr 1
      cases h6 : (((E ++ F).getD i (0, 0)).1 == f) with
      | true => exact decide_eq_true ((mem_outof (E ++ F) f i).2 ⟨hi, by simpa using h6⟩)
      | false => exact decide_eq_false fun hm => by have := ((mem_outof (E ++ F) f i).1 hm).2; rw [this] at h6; simp at h6
  | none =>
    have hc : cyc (E ++ F) n s'.gone ((firstOf n s'.done).getD 0) = cyc E n s.gone ((firstOf n s.done).getD 0) := by
      unfold cyc
      rw [way_congr hprev, h2]
    simp only [hc]
    generalize cyc E n s.gone ((firstOf n s.done).getD 0) = c
    refine ⟨h1, h2, by show _ = _; rw [h3], fun e => g e || (e.1 == c.getLastD 0 && e.2 == c.headD 0), fun i hi => ?_, fun i hi => ?_⟩
    · show rems s.gone ((outof E (c.getLastD 0)).filter fun i => (E.getD i (0, 0)).2 == c.headD 0) i = _
      rw [rems_eq, h4 i hi]
      congr 1
      cases h6 : ((E.getD i (0, 0)).1 == c.getLastD 0) with
      | true =>
        cases h7 : ((E.getD i (0, 0)).2 == c.headD 0) with
        | true => exact decide_eq_true (List.mem_filter.2 ⟨(mem_outof E _ i).2 ⟨hi, by simpa using h6⟩, h7⟩)
        | false => exact decide_eq_false fun hm => by rw [(List.mem_filter.1 hm).2] at h7; cases h7
      | false => exact decide_eq_false fun hm => by have := ((mem_outof E _ i).1 (List.mem_filter.1 hm).1).2; rw [this] at h6; simp at h6
    · show rems s'.gone ((outof (E ++ F) (c.getLastD 0)).filter fun i => ((E ++ F).getD i (0, 0)).2 == c.headD 0) i = _
      rw [rems_eq, h5 i hi]
      congr 1
      cases h6 : (((E ++ F).getD i (0, 0)).1 == c.getLastD 0) with
      | true =>
        cases h7 : (((E ++ F).getD i (0, 0)).2 == c.headD 0) with
        | true => exact decide_eq_true (List.mem_filter.2 ⟨(mem_outof (E ++ F) _ i).2 ⟨hi, by simpa using h6⟩, h7⟩)
        | false => exact decide_eq_false fun hm => by rw [(List.mem_filter.1 hm).2] at h7; cases h7
      | false => exact decide_eq_false fun hm => by have := ((mem_outof (E ++ F) _ i).1 (List.mem_filter.1 hm).1).2; rw [this] at h6; simp at h6
theorem run_same {E F : Edges} (hF : ∀ e ∈ F, e ∈ E) (n : Nat) : ∀ K, Same E (E ++ F) (run E n K) (run (E ++ F) n K)
  | 0 => ⟨rfl, rfl, rfl, fun _ => false, fun _ _ => rfl, fun _ _ => rfl⟩
  | K + 1 => same_next hF n (run_same hF n K)
theorem named (ps : List (Str × Str)) : ∀ p ∈ ps, p.1 ∈ (rd ps).1 ∧ p.2 ∈ (rd ps).1 := by
  have hadd : ∀ (ls : List Str) (y x : Str), x ∈ ls → x ∈ addNew ls y := by
    intro ls y x h
    unfold addNew
    split
    · exact h
    · exact List.mem_append_left _ h
  suffices h : ∀ (ps : List (Str × Str)) (st : List Str × List (Nat × Nat)), (∀ x ∈ st.1, x ∈ (ps.foldl rstep st).1) ∧ ∀ p ∈ ps, p.1 ∈ (ps.foldl rstep st).1 ∧ p.2 ∈ (ps.foldl rstep st).1 from (h ps ([], [])).2
  intro ps
  induction ps with
  | nil => intro st; exact ⟨fun x h => h, fun p h => by cases h⟩
  | cons p ps ih =>
    intro st
    rw [List.foldl_cons]
    obtain ⟨i1, i2⟩ := ih (rstep st p)
    refine ⟨fun x hx => i1 x (hadd _ _ _ (hadd _ _ _ hx)), fun q hq => ?_⟩
    rcases List.mem_cons.1 hq with e | e
    · subst e
      exact ⟨i1 _ (hadd _ _ _ (mem_addNew _ _)), i1 _ (mem_addNew _ _)⟩
    · exact i2 q e
/-- pairs that are repeated, and pairs of an element with itself -/
theorem rd_more (ps qs : List (Str × Str)) (h : ∀ q ∈ qs, q ∈ ps ∨ q.1 = q.2 ∧ q.1 ∈ (rd ps).1) : ∃ F, (∀ e ∈ F, e ∈ (rd ps).2) ∧ rd (ps ++ qs) = ((rd ps).1, (rd ps).2 ++ F) := by
  have hn := rd_nodup ps
  have hcons := cons_rd ps
  have hends := TStart.rd_ends ps
  have hname := named ps
  suffices hk : ∀ (qs : List (Str × Str)), (∀ q ∈ qs, q ∈ ps ∨ q.1 = q.2 ∧ q.1 ∈ (rd ps).1) → ∀ F0, (∀ e ∈ F0, e ∈ (rd ps).2) → ∃ F, (∀ e ∈ F, e ∈ (rd ps).2) ∧ qs.foldl rstep ((rd ps).1, (rd ps).2 ++ F0) = ((rd ps).1, (rd ps).2 ++ F) by
    obtain ⟨F, h1, h2⟩ := hk qs h [] (fun e he => by cases he)
    refine ⟨F, h1, ?_⟩
    rw [List.append_nil] at h2
    rw [← h2]
    unfold rd
    rw [List.foldl_append]
  intro qs
  induction qs with
  | nil => intro _ F0 h0; exact ⟨F0, h0, rfl⟩
  | cons q qs ih =>
    intro hq F0 h0
    rw [List.foldl_cons]
    have hin : q.1 ∈ (rd ps).1 ∧ q.2 ∈ (rd ps).1 := by
      rcases hq q (List.mem_cons_self ..) with h1 | ⟨h1, h2⟩
      · exact hname q h1
      · exact ⟨h2, h1 ▸ h2⟩
    have a1 : addNew (rd ps).1 q.1 = (rd ps).1 := by unfold addNew; rw [if_pos hin.1]
    have a2 : addNew (rd ps).1 q.2 = (rd ps).1 := by unfold addNew; rw [if_pos hin.2]
    have hstep : rstep ((rd ps).1, (rd ps).2 ++ F0) q = ((rd ps).1, if (rd ps).1.idxOf q.1 = (rd ps).1.idxOf q.2 then (rd ps).2 ++ F0 else (rd ps).2 ++ F0 ++ [((rd ps).1.idxOf q.1, (rd ps).1.idxOf q.2)]) := by
      unfold rstep
      simp only [a1, a2]
    rw [hstep]
    by_cases he : (rd ps).1.idxOf q.1 = (rd ps).1.idxOf q.2
    · rw [if_pos he]
      exact ih (fun x hx => hq x (List.mem_cons_of_mem _ hx)) F0 h0
    · rw [if_neg he, List.append_assoc]
      refine ih (fun x hx => hq x (List.mem_cons_of_mem _ hx)) _ fun e hme => ?_
      rcases List.mem_append.1 hme with h1 | h1
      · exact h0 e h1
      · rw [List.mem_singleton] at h1
        rcases hq q (List.mem_cons_self ..) with h2 | ⟨h2, -⟩
        · have hm : q ∈ cons ps := by
            unfold cons
            exact List.mem_filter.2 ⟨h2, by
              have : q.1 ≠ q.2 := fun e => he (by rw [e])
              simpa using this⟩
          rw [hcons] at hm
          obtain ⟨e', he', hq'⟩ := List.mem_map.1 hm
          have hee := hends e' he'
          have : e = e' := by
            rw [h1, ← hq']
            unfold nmE
            rw [idx_nm hn hee.1, idx_nm hn hee.2]
          rw [this]
          exact he'
        · exact absurd (by rw [h2]) he
/-- both sorts return the same -/
theorem more_post {w1 w2 : World} {ps qs : List (Str × Str)} {e1 e2 : Ending} {W1 W2 : World} (h : ∀ q ∈ qs, q ∈ ps ∨ q.1 = q.2 ∧ q.1 ∈ (rd ps).1) (h1 : SPost w1 ps e1 W1) (h2 : SPost w2 (ps ++ qs) e2 W2) :
    ∃ v2 v3 u2 u3 os cs, e1 = .returned (.tuple #[v2, v3]) ∧ e2 = .returned (.tuple #[u2, u3]) ∧ Strs W1 v2 os ∧ Lists W1 v3 cs ∧ Strs W2 u2 os ∧ Lists W2 u3 cs := by
  obtain ⟨F, hF, hr⟩ := rd_more ps qs h
  obtain ⟨v2, v3, K, he, -, hK, hmin, hs, hl, -⟩ := h1
  obtain ⟨u2, u3, K', he', -, hK', hmin', hs', hl', -⟩ := h2
  rw [hr] at hK' hmin' hs' hl'
  have hsame := run_same hF (rd ps).1.length
  have : K = K' := by
    rcases Nat.lt_trichotomy K K' with h | h | h
    · have h3 : (run ((rd ps).2 ++ F) (rd ps).1.length K).order.length < (rd ps).1.length := hmin' K h
      rw [← (hsame K).1] at h3
      omega
    · exact h
    · have h3 := hmin K' h
      have h4 : (run ((rd ps).2 ++ F) (rd ps).1.length K').order.length = (rd ps).1.length := hK'
      rw [← (hsame K').1] at h4
      omega
  subst this
  have hs'' : Strs W2 u2 ((run ((rd ps).2 ++ F) (rd ps).1.length K).order.map (nm (rd ps).1)) := hs'
  have hl'' : Lists W2 u3 ((run ((rd ps).2 ++ F) (rd ps).1.length K).cycles.map (List.map (nm (rd ps).1))) := hl'
  rw [← (hsame K).1] at hs''
  rw [← (hsame K).2.2.1] at hl''
  exact ⟨v2, v3, u2, u3, _, _, he, he', hs, hl, hs'', hl''⟩
end Go.Proofs.Ytlnbkljajocfoaa.TRepeatMath
