/- Plain law: one step of the reference's sort is one step of the sort of numbers. No condition. -/
import Derived.Test.YtlnbkljajocfoaaTRefMath
namespace Go.Proofs.Ytlnbkljajocfoaa.TRefStep
open Go Topo Strs TPairs TGraph TRead TPlace TCons TRefBefore TWithout TCycle TOut TRefMath

def leftN (n : Nat) (done : Nat → Bool) : List Nat := (List.range n).filter fun i => !done i
theorem leftS_eq (ls : List Str) (done : Nat → Bool) : leftS ls done = (leftN ls.length done).map (nm ls) := rfl
theorem mem_leftN {n : Nat} {done : Nat → Bool} {y : Nat} : y ∈ leftN n done ↔ y < n ∧ done y = false := by
  unfold leftN
  rw [List.mem_filter, List.mem_range]
  simp
theorem leftN_asc (n : Nat) (done : Nat → Bool) : (leftN n done).Pairwise (· < ·) := List.Pairwise.filter _ List.pairwise_lt_range
theorem asc_get {l : List Nat} (h : l.Pairwise (· < ·)) {i j a b : Nat} (hi : l[i]? = some a) (hj : l[j]? = some b) (hab : a < b) : i < j := by
  rcases Nat.lt_trichotomy i j with h1 | h1 | h1
  · exact h1
  · rw [h1, hj] at hi
    have := Option.some.inj hi
    omega
  · exfalso
    obtain ⟨hi1, hi2⟩ := List.getElem?_eq_some_iff.1 hi
    obtain ⟨hj1, hj2⟩ := List.getElem?_eq_some_iff.1 hj
    have := List.pairwise_iff_getElem.1 h j i hj1 hi1 h1
    omega
theorem eraseIdx_map {α β : Type} (g : α → β) : ∀ (l : List α) (i : Nat), (l.map g).eraseIdx i = (l.eraseIdx i).map g
  | [], i => by simp
  | a :: l, 0 => by simp
  | a :: l, i + 1 => by simp [eraseIdx_map g l i]
theorem erase_at : ∀ (l : List Nat) (i x : Nat), l.Nodup → l[i]? = some x → l.eraseIdx i = l.filter fun k => !(k == x)
  | [], i, x, _, h => by simp at h
  | a :: l, 0, x, hn, h => by
    have h1 := List.nodup_cons.1 hn
    simp at h
    subst h
    rw [List.eraseIdx_cons_zero, List.filter_cons]
    simp
    symm
    rw [List.filter_eq_self]
    intro b hb
    have : b ≠ a := fun e => h1.1 (e ▸ hb)
    simpa using this
  | a :: l, i + 1, x, hn, h => by
    have h1 := List.nodup_cons.1 hn
    simp at h
    have hax : a ≠ x := fun e => h1.1 (e ▸ List.mem_of_getElem? h)
    have hb : (a == x) = false := by simpa using hax
    rw [List.eraseIdx_cons_succ, List.filter_cons, hb, erase_at l i x h1.2 h]
    simp
/-- an element is taken out of those that are left -/
theorem left_erase {ls : List Str} {done : Nat → Bool} {q f : Nat} (hq : (leftN ls.length done)[q]? = some f) : (leftS ls done).eraseIdx q = leftS ls (fun k => done k || k == f) := by
  have hnd : (leftN ls.length done).Nodup := List.Pairwise.filter _ List.nodup_range
  rw [leftS_eq, eraseIdx_map, erase_at _ q f hnd hq, leftS_eq]
  congr 1
  unfold leftN
  rw [List.filter_filter]
  apply List.filter_congr
  intro k _
  show (!(k == f) && !done k) = !(done k || k == f)
  cases done k <;> simp
section
variable {ls : List Str} {E : Edges} (hn : ls.Nodup) (hw : Wf E ls.length)
include hn hw
theorem wout_all (gone : Nat → Bool) {f : Nat} (hf : f < ls.length) : wout (openS ls E gone) (nm ls f) [] true = openS ls E (rems gone (outof E f)) := by
  unfold wout openS
  rw [List.filter_map, List.filter_filter]
  congr 1
  apply List.filter_congr
  intro i hi
  have hi' := List.mem_range.1 hi
  have h1 := (hw.ends i hi').1
  rw [rems_eq]
  show (((!(nm ls (E.getD i (0, 0)).1 == nm ls f)) || (!true && _)) && !gone i) = !(gone i || decide (i ∈ outof E f))
  by_cases e : (E.getD i (0, 0)).1 = f
  · have hm : i ∈ outof E f := (mem_outof E f i).2 ⟨hi', e⟩
    rw [e]
    simp [hm]
  · have hm : i ∉ outof E f := fun h => e ((mem_outof E f i).1 h).2
    have hne : nm ls (E.getD i (0, 0)).1 ≠ nm ls f := fun h => e (nm_inj hn h1 hf h)
    rw [beq_eq_false_iff_ne.2 hne]
    simp [hm]
theorem wout_one (gone : Nat → Bool) {a b : Nat} (ha : a < ls.length) (hb : b < ls.length) : wout (openS ls E gone) (nm ls a) (nm ls b) false = openS ls E (rems gone ((outof E a).filter fun i => (E.getD i (0, 0)).2 == b)) := by
  unfold wout openS
  rw [List.filter_map, List.filter_filter]
  congr 1
  apply List.filter_congr
  intro i hi
  have hi' := List.mem_range.1 hi
  have h1 := hw.ends i hi'
  rw [rems_eq]
  show (((!(nm ls (E.getD i (0, 0)).1 == nm ls a)) || (!false && !(nm ls (E.getD i (0, 0)).2 == nm ls b))) && !gone i) = !(gone i || decide (i ∈ (outof E a).filter fun i => (E.getD i (0, 0)).2 == b))
  have hm : (i ∈ (outof E a).filter fun i => (E.getD i (0, 0)).2 == b) ↔ ((E.getD i (0, 0)).1 = a ∧ (E.getD i (0, 0)).2 = b) := by
    rw [List.mem_filter, mem_outof]
    constructor
    · rintro ⟨⟨-, h2⟩, h3⟩
      exact ⟨h2, by simpa using h3⟩
    · rintro ⟨h2, h3⟩
      exact ⟨⟨hi', h2⟩, by simpa using h3⟩
  have e1 : (nm ls (E.getD i (0, 0)).1 == nm ls a) = decide ((E.getD i (0, 0)).1 = a) := by
    by_cases e : (E.getD i (0, 0)).1 = a
    · rw [e]; simp
    · rw [beq_eq_false_iff_ne.2 (fun h => e (nm_inj hn h1.1 ha h)), decide_eq_false e]
  have e2 : (nm ls (E.getD i (0, 0)).2 == nm ls b) = decide ((E.getD i (0, 0)).2 = b) := by
    by_cases e : (E.getD i (0, 0)).2 = b
    · rw [e]; simp
    · rw [beq_eq_false_iff_ne.2 (fun h => e (nm_inj hn h1.2 hb h)), decide_eq_false e]
  have e3 : decide (i ∈ (outof E a).filter fun i => (E.getD i (0, 0)).2 == b) = decide ((E.getD i (0, 0)).1 = a ∧ (E.getD i (0, 0)).2 = b) := decide_eq_decide.2 hm
  rw [e1, e2, e3, Bool.decide_and]
  cases gone i <;> simp
/-- the first of those that are left that waits for none: the free element -/
theorem free_at {s : St} {q f : Nat} (hq : (leftN ls.length s.done)[q]? = some f) (hf : bef (openS ls E s.gone) (nm ls f) < 0) (hb : ∀ j y, j < q → (leftS ls s.done)[j]? = some y → ¬ bef (openS ls E s.gone) y < 0) : freeOf E ls.length s.gone s.done = some f := by
  obtain ⟨h1, h2⟩ := mem_leftN.1 (List.mem_of_getElem? hq)
  refine find_is h1 (by simp [h2, (bef_open hn hw s.gone h1).1 hf]) fun y hy => ?_
  cases hd : s.done y with
  | true => rfl
  | false =>
    obtain ⟨j, hj⟩ := List.getElem?_of_mem (mem_leftN.2 ⟨Nat.lt_trans hy h1, hd⟩ : y ∈ leftN ls.length s.done)
    have hjq := asc_get (leftN_asc ls.length s.done) hj hq hy
    have h3 := hb j (nm ls y) hjq (by rw [leftS_eq, List.getElem?_map, hj]; rfl)
    have h4 : need E s.gone y ≠ 0 := fun h => h3 ((bef_open hn hw s.gone (Nat.lt_trans hy h1)).2 h)
    simpa using h4
theorem free_no {s : St} (hb : ∀ (j : Nat) y, (leftS ls s.done)[j]? = some y → ¬ bef (openS ls E s.gone) y < 0) : freeOf E ls.length s.gone s.done = none := by
  refine find_no fun y hy => ?_
  cases hd : s.done y with
  | true => rfl
  | false =>
    obtain ⟨j, hj⟩ := List.getElem?_of_mem (mem_leftN.2 ⟨hy, hd⟩ : y ∈ leftN ls.length s.done)
    have h3 := hb j (nm ls y) (by rw [leftS_eq, List.getElem?_map, hj]; rfl)
    have h4 : need E s.gone y ≠ 0 := fun h => h3 ((bef_open hn hw s.gone hy).2 h)
    simpa using h4
omit hn hw in
theorem first_left {s : St} {x : Nat} (h : firstOf ls.length s.done = some x) : (leftS ls s.done)[0]? = some (nm ls x) := by
  unfold firstOf at h
  rw [leftS_eq, List.getElem?_map]
  have : (leftN ls.length s.done)[0]? = some x := by
    unfold leftN
    rw [← List.head?_eq_getElem?, List.head?_filter]
    exact h
  rw [this]
  rfl
/-- what the reference's cycle needs, where no element is free -/
theorem cycle_hyps {s : St} (hG : Topo.Good E ls.length s) (hf : freeOf E ls.length s.gone s.done = none) :
    (∀ y, (∃ a, a < ls.length ∧ s.done a = false ∧ y = nm ls a) → y ∈ leftS ls s.done) ∧ ∀ y, (∃ a, a < ls.length ∧ s.done a = false ∧ y = nm ls a) → y ∈ (openS ls E s.gone).map (·.2) ∧ ∃ a, a < ls.length ∧ s.done a = false ∧ prevS (openS ls E s.gone) y = nm ls a := by
  constructor
  · rintro y ⟨a, h1, h2, rfl⟩
    rw [leftS_eq]
    exact List.mem_map.2 ⟨a, mem_leftN.2 ⟨h1, h2⟩, rfl⟩
  · rintro y ⟨a, h1, h2, rfl⟩
    have hneed : need E s.gone a ≠ 0 := by
      intro h3
      have := find_none_iff.1 hf a (List.mem_range.2 h1)
      simp [h2, h3] at this
    refine ⟨(open_mem hn hw s.gone h1).2 hneed, prev E s.gone a, prev_lt hw s.gone h1, ?_, prev_open hn hw s.gone h1⟩
    obtain ⟨i, h4, h5, h6⟩ := prev_edge hneed
    have := (hG.edge i h4 h5).1
    rw [h6] at this
    exact this
theorem cycle_is {s : St} (hG : Topo.Good E ls.length s) (hf : freeOf E ls.length s.gone s.done = none) {x : Nat} (hx : x < ls.length) (hd : s.done x = false) :
    turnedS (leftS ls s.done) (wayS (openS ls E s.gone) (ls.length + 1) [] (nm ls x)) = (cyc E ls.length s.gone x).map (nm ls) := by
  have hneed : ∀ y, (y < ls.length ∧ s.done y = false) → need E s.gone y ≠ 0 := by
    rintro y ⟨h1, h2⟩ h3
    have := find_none_iff.1 hf y (List.mem_range.2 h1)
    simp [h2, h3] at this
  have hp : ∀ y, (y < ls.length ∧ s.done y = false) → (prev E s.gone y < ls.length ∧ s.done (prev E s.gone y) = false) := by
    intro y hy
    obtain ⟨i, h1, h2, h3⟩ := prev_edge (hneed y hy)
    have h5 := (hG.edge i h1 h2).1
    rw [h3] at h5
    exact ⟨prev_lt hw s.gone hy.1, h5⟩
  obtain ⟨hr, hz⟩ := way_ring (E := E) (n := ls.length) (gone := s.gone) (P := fun y => y < ls.length ∧ s.done y = false) (fun y hy => hy.1) hp (ls.length + 1) [] x (by simp) (fun z hz => by cases hz) ⟨hx, hd⟩ (by simp) (fun i a b ha => by simp at ha)
  have h1 := way_open hn hw s.gone (fun y hy => prev_lt hw s.gone hy) (ls.length + 1) [] x (fun z hz => by cases hz) hx
  rw [List.map_nil] at h1
  rw [h1]
  exact turned_open hn s.done _ hr.1 hr.2.1 hz
end
/-- the constraints are the edges, by name -/
theorem nm_grow {ls : List Str} {x : Str} {i : Nat} (h : i < ls.length) : nm (addNew ls x) i = nm ls i := by
  unfold addNew
  split
  · rfl
  · unfold nm
    rw [List.getD_eq_getElem?_getD, List.getD_eq_getElem?_getD, List.getElem?_append_left h]
theorem nm_idx {ls : List Str} {x : Str} (h : x ∈ ls) : nm ls (ls.idxOf x) = x := by
  have hl := List.idxOf_lt_length_of_mem h
  unfold nm
  rw [List.getD_eq_getElem?_getD, List.getElem?_eq_getElem hl, List.getElem_idxOf]
  rfl
theorem idx_grow {ls : List Str} {x y : Str} (h : x ∈ ls) : (addNew ls y).idxOf x = ls.idxOf x := by
  unfold addNew
  split
  · rfl
  · rw [List.idxOf_append, if_pos h]
theorem cons_rd (ps : List (Str × Str)) : cons ps = (rd ps).2.map (nmE (rd ps).1) := by
  suffices h : ∀ (ps : List (Str × Str)) (st : List Str × List (Nat × Nat)), (∀ e ∈ st.2, e.1 < st.1.length ∧ e.2 < st.1.length) →
      (∀ i, i < st.1.length → nm (ps.foldl rstep st).1 i = nm st.1 i) ∧ (ps.foldl rstep st).2.map (nmE (ps.foldl rstep st).1) = st.2.map (nmE st.1) ++ cons ps from by
    have := (h ps ([], []) (fun e he => by cases he)).2
    simpa [rd] using this.symm
  intro ps
  induction ps with
  | nil => intro st _; exact ⟨fun i _ => rfl, by simp [cons]⟩
  | cons p ps ih =>
    intro st hst
    rw [List.foldl_cons]
    have h1 := TStart.addNew_ge st.1 p.1
    have h2 := TStart.addNew_ge (addNew st.1 p.1) p.2
    have m1 := mem_addNew st.1 p.1
    have m2 := mem_addNew (addNew st.1 p.1) p.2
    have h3 := List.idxOf_lt_length_of_mem m1
    have h4 := List.idxOf_lt_length_of_mem m2
    have hgrow : ∀ i, i < st.1.length → nm (rstep st p).1 i = nm st.1 i := fun i hi => by
      show nm (addNew (addNew st.1 p.1) p.2) i = _
      rw [nm_grow (by omega), nm_grow hi]
    have hends : ∀ e ∈ (rstep st p).2, e.1 < (rstep st p).1.length ∧ e.2 < (rstep st p).1.length := by
      intro e he
      show e.1 < (addNew (addNew st.1 p.1) p.2).length ∧ e.2 < (addNew (addNew st.1 p.1) p.2).length
      simp only [rstep] at he
      split at he
      · have := hst e he; omega
      · rcases List.mem_append.1 he with he | he
        · have := hst e he; omega
        · simp at he
          subst he
          simp only
          omega
    obtain ⟨g1, g2⟩ := ih (rstep st p) hends
    have hl : st.1.length ≤ (rstep st p).1.length := by show _ ≤ (addNew (addNew st.1 p.1) p.2).length; omega
    refine ⟨fun i hi => by rw [g1 i (by omega), hgrow i hi], ?_⟩
    rw [g2]
    have hx : nm (rstep st p).1 ((addNew st.1 p.1).idxOf p.1) = p.1 := by
      show nm (addNew (addNew st.1 p.1) p.2) _ = _
      rw [nm_grow h3, nm_idx m1]
    have hy : nm (rstep st p).1 ((addNew (addNew st.1 p.1) p.2).idxOf p.2) = p.2 := nm_idx m2
    have hold : st.2.map (nmE (rstep st p).1) = st.2.map (nmE st.1) := by
      apply List.map_congr_left
      intro e he
      have := hst e he
      unfold nmE
      rw [hgrow _ this.1, hgrow _ this.2]
    have hcons : cons (p :: ps) = (if p.1 = p.2 then [] else [p]) ++ cons ps := by
      unfold cons
      rw [List.filter_cons]
      by_cases e : p.1 = p.2
      · rw [if_pos e]; simp [e]
      · rw [if_neg e, beq_eq_false_iff_ne.2 e]; simp
    rw [hcons, ← List.append_assoc]
    congr 1
    by_cases e : p.1 = p.2
    · have hi : (addNew st.1 p.1).idxOf p.1 = (addNew (addNew st.1 p.1) p.2).idxOf p.2 := by rw [← e, idx_grow m1]
      rw [if_pos e, List.append_nil]
      have : (rstep st p).2 = st.2 := by simp only [rstep]; rw [if_pos hi]
      rw [this, hold]
    · have hi : ¬ (addNew st.1 p.1).idxOf p.1 = (addNew (addNew st.1 p.1) p.2).idxOf p.2 := fun h => e (by rw [← hx, ← hy, h])
      rw [if_neg e]
      have : (rstep st p).2 = st.2 ++ [((addNew st.1 p.1).idxOf p.1, (addNew (addNew st.1 p.1) p.2).idxOf p.2)] := by simp only [rstep]; rw [if_neg hi]
      rw [this, List.map_append, hold]
      congr 1
      show [nmE _ _] = [p]
      unfold nmE
      rw [hx, hy]
theorem open_start (ls : List Str) (E : Edges) : openS ls E (fun _ => false) = E.map (nmE ls) := by
  unfold openS
  have hf : (List.range E.length).filter (fun i => !(fun _ : Nat => false) i) = List.range E.length := List.filter_eq_self.2 (fun _ _ => rfl)
  rw [hf]
  apply List.ext_getElem?
  intro i
  rw [List.getElem?_map, List.getElem?_map]
  by_cases hi : i < E.length
  · rw [List.getElem?_range hi, List.getElem?_eq_getElem hi]
    show some (nmE ls (E.getD i (0, 0))) = _
    rw [List.getD_eq_getElem?_getD, List.getElem?_eq_getElem hi]
    rfl
  · rw [List.getElem?_eq_none (by simp; omega), List.getElem?_eq_none (by omega)]
    rfl
theorem left_start (ls : List Str) : leftS ls (fun _ => false) = ls := by
  unfold leftS
  have hf : (List.range ls.length).filter (fun i => !(fun _ : Nat => false) i) = List.range ls.length := List.filter_eq_self.2 (fun _ _ => rfl)
  rw [hf]
  apply List.ext_getElem?
  intro i
  rw [List.getElem?_map]
  by_cases hi : i < ls.length
  · rw [List.getElem?_range hi, nm_at hi]
    rfl
  · rw [List.getElem?_eq_none (by simp; omega), List.getElem?_eq_none (by omega)]
    rfl
theorem rd_nodup (ps : List (Str × Str)) : (rd ps).1.Nodup := by
  suffices h : ∀ (ps : List (Str × Str)) (st : List Str × List (Nat × Nat)), st.1.Nodup → (ps.foldl rstep st).1.Nodup from h ps ([], []) List.nodup_nil
  intro ps
  induction ps with
  | nil => intro st h; exact h
  | cons p ps ih =>
    intro st h
    rw [List.foldl_cons]
    exact ih _ (addNew_nodup (addNew_nodup h _) _)
end Go.Proofs.Ytlnbkljajocfoaa.TRefStep
