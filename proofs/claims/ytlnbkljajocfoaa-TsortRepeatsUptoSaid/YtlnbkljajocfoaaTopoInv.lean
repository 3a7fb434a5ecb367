/- Plain mathematics of the sort: what holds of every state, cycles are rings of constraints that are left, each step comes nearer to the end. No condition. -/
import Derived.Test.YtlnbkljajocfoaaTopoMath
namespace Go.Proofs.Ytlnbkljajocfoaa.Topo

theorem rems_eq (l : List Nat) : ∀ (gone : Nat → Bool) (i : Nat), rems gone l i = (gone i || decide (i ∈ l)) := by
  induction l with
  | nil => intro gone i; simp [rems]
  | cons a l ih =>
    intro gone i
    have := ih (rem gone a) i
    unfold rems at this ⊢
    rw [List.foldl_cons, this]
    unfold rem
    by_cases h : i = a
    · subst h; simp
    · have hb : (i == a) = false := by simpa using h
      simp [h, hb]
structure Wf (E : Edges) (n : Nat) : Prop where
  ends : ∀ i, i < E.length → (E.getD i (0, 0)).1 < n ∧ (E.getD i (0, 0)).2 < n
  apart : ∀ i, i < E.length → (E.getD i (0, 0)).1 ≠ (E.getD i (0, 0)).2
/-- how many constraints are left -/
def leftN (E : Edges) (gone : Nat → Bool) : Nat := ((List.range E.length).filter fun i => !gone i).length
theorem filter_len_le {α : Type} (p q : α → Bool) : ∀ l : List α, (∀ x ∈ l, p x = true → q x = true) → (l.filter p).length ≤ (l.filter q).length
  | [], _ => Nat.le_refl _
  | x :: l, h => by
    have ih := filter_len_le p q l fun y hy => h y (List.mem_cons_of_mem _ hy)
    have hx := h x (List.mem_cons_self ..)
    rw [List.filter_cons, List.filter_cons]
    cases hp : p x <;> cases hq : q x <;> simp_all <;> omega
theorem filter_len_lt {α : Type} (p q : α → Bool) (z : α) (hp : p z = false) (hq : q z = true) : ∀ l : List α, (∀ x ∈ l, p x = true → q x = true) → z ∈ l → (l.filter p).length < (l.filter q).length
  | [], _, hz => by cases hz
  | x :: l, h, hz => by
    have hx := h x (List.mem_cons_self ..)
    rw [List.filter_cons, List.filter_cons]
    by_cases e : z = x
    · subst e
      have := filter_len_le p q l fun y hy => h y (List.mem_cons_of_mem _ hy)
      rw [hp, hq]
      simp
      omega
    · have hz' : z ∈ l := by rcases List.mem_cons.1 hz with h1 | h1; exact absurd h1 e; exact h1
      have ih := filter_len_lt p q z hp hq l (fun y hy => h y (List.mem_cons_of_mem _ hy)) hz'
      cases hp' : p x <;> cases hq' : q x <;> simp_all <;> omega
theorem find_none_iff {α : Type} {p : α → Bool} {l : List α} : l.find? p = none ↔ ∀ x ∈ l, p x = false := by simp
theorem need_zero {E : Edges} {gone : Nat → Bool} {j : Nat} : need E gone j = 0 ↔ ∀ i, i < E.length → (E.getD i (0, 0)).2 = j → gone i = true := by
  unfold need
  rw [List.length_eq_zero_iff, List.filter_eq_nil_iff]
  constructor
  · intro h i hi he
    have := h i ((mem_into E j i).2 ⟨hi, he⟩)
    simpa using this
  · intro h i hi
    obtain ⟨h1, h2⟩ := (mem_into E j i).1 hi
    simp [h i h1 h2]
theorem prev_edge {E : Edges} {gone : Nat → Bool} {y : Nat} (h : need E gone y ≠ 0) : ∃ i, i < E.length ∧ gone i = false ∧ E.getD i (0, 0) = (prev E gone y, y) := by
  unfold prev
  cases hf : (into E y).find? fun i => !gone i with
  | none =>
    exfalso
    apply h
    rw [need_zero]
    intro i hi he
    have := find_none_iff.1 hf i ((mem_into E y i).2 ⟨hi, he⟩)
    simpa using this
  | some i =>
    obtain ⟨h1, h2⟩ := (mem_into E y i).1 (List.mem_of_find?_eq_some hf)
    have h3 := List.find?_some hf
    exact ⟨i, h1, by simpa using h3, Prod.ext rfl h2⟩
/-- a list each of whose elements comes behind the one before it, and the first behind the last -/
def Ring (R : Nat → Nat → Prop) (c : List Nat) : Prop := c ≠ [] ∧ c.Nodup ∧ ∀ i a b, c[i]? = some a → c[(i + 1) % c.length]? = some b → R a b
theorem nodup_lt : ∀ {n : Nat} {p : List Nat}, p.Nodup → (∀ z ∈ p, z < n) → p.length ≤ n
  | n, p, hn, hp => by
    have : ∀ (n : Nat) (p : List Nat), p.Nodup → (∀ z ∈ p, z < n) → p.length ≤ n := by
      intro n
      induction n with
      | zero => intro p _ h; cases p with
        | nil => simp
        | cons a p => exact absurd (h a (List.mem_cons_self ..)) (by omega)
      | succ n ih =>
        intro p hn h
        have h1 := ih (p.erase n) (hn.erase n) (fun z hz => by
          have h2 := (hn.mem_erase_iff).1 hz
          have := h z h2.2
          have := h2.1
          omega)
        have h2 := List.length_erase (a := n) (l := p)
        split at h2 <;> omega
    exact this n p hn hp
/-- the way back ends in a ring -/
theorem way_ring {E : Edges} {n : Nat} {gone : Nat → Bool} {P : Nat → Prop} (hlt : ∀ y, P y → y < n) (hp : ∀ y, P y → P (prev E gone y)) :
    ∀ (f : Nat) (path : List Nat) (x : Nat), path.Nodup → (∀ z ∈ path, P z) → P x → n + 1 ≤ f + path.length → (∀ i a b, path[i]? = some a → (path ++ [x])[i + 1]? = some b → prev E gone a = b) →
      Ring (fun a b => prev E gone a = b) (way E gone f path x) ∧ ∀ z ∈ way E gone f path x, P z
  | 0, path, x, hn, hP, hx, hf, hl => by
    have := nodup_lt hn (fun z hz => hlt z (hP z hz))
    omega
  | f + 1, path, x, hn, hP, hx, hf, hl => by
    unfold way
    by_cases hm : x ∈ path
    · rw [if_pos hm]
      have hk : path.idxOf x < path.length := List.idxOf_lt_length_iff.2 hm
      refine ⟨⟨fun e => ?_, hn.sublist (List.drop_sublist _ _), ?_⟩, fun z hz => hP z (List.mem_of_mem_drop hz)⟩
      · have := congrArg List.length e
        simp at this
        omega
      · intro i a b ha hb
        rw [List.getElem?_drop] at ha hb
        have hia : path.idxOf x + i < path.length := by
          rcases Nat.lt_or_ge (path.idxOf x + i) path.length with h | h
          · exact h
          · rw [List.getElem?_eq_none h] at ha; cases ha
        rw [List.length_drop] at hb
        by_cases hi : i + 1 < path.length - path.idxOf x
        · rw [Nat.mod_eq_of_lt hi] at hb
          refine hl _ a b ha ?_
          rw [List.getElem?_append_left (by omega)]
          exact hb
        · have h1 : i + 1 = path.length - path.idxOf x := by omega
          rw [h1, Nat.mod_self, Nat.add_zero] at hb
          have hbx : b = x := by
            rw [List.getElem?_eq_getElem hk, List.getElem_idxOf] at hb
            exact (Option.some.inj hb).symm
          subst hbx
          refine hl _ a b ha ?_
          rw [List.getElem?_append_right (by omega), show path.idxOf b + i + 1 - path.length = 0 from by omega]
          rfl
    · rw [if_neg hm]
      refine way_ring hlt hp f (path ++ [x]) (prev E gone x) ?_ ?_ (hp x hx) (by simp; omega) ?_
      · rw [List.nodup_append]
        exact ⟨hn, by simp, fun a ha b hb => by rw [List.mem_singleton] at hb; subst hb; exact fun e => hm (e ▸ ha)⟩
      · intro z hz
        rcases List.mem_append.1 hz with h | h
        · exact hP z h
        · rw [List.mem_singleton] at h; subst h; exact hx
      · intro i a b ha hb
        by_cases hi : i < path.length
        · rw [List.getElem?_append_left hi] at ha
          rw [List.getElem?_append_left (by simp; omega)] at hb
          exact hl i a b ha hb
        · have hlen : i < (path ++ [x]).length := by
            rcases Nat.lt_or_ge i (path ++ [x]).length with h | h
            · exact h
            · rw [List.getElem?_eq_none h] at ha; cases ha
          simp at hlen
          have hie : i = path.length := by omega
          subst hie
          simp at ha
          rw [List.getElem?_append_right (by simp)] at hb
          simp at hb
          rw [← ha, hb]
theorem ring_reverse {R : Nat → Nat → Prop} {c : List Nat} (h : Ring R c) : Ring (fun a b => R b a) c.reverse := by
  obtain ⟨h1, h2, h3⟩ := h
  refine ⟨by simpa using h1, (List.reverse_perm c).nodup_iff.2 h2, ?_⟩
  intro i a b ha hb
  have hi : i < c.length := by
    rcases Nat.lt_or_ge i c.length with h | h
    · exact h
    · rw [List.getElem?_eq_none (by simpa using h)] at ha; cases ha
  rw [List.getElem?_reverse hi] at ha
  rw [List.length_reverse, List.getElem?_reverse (Nat.mod_lt _ (by omega))] at hb
  refine h3 _ b a hb ?_
  rw [← ha]
  congr 1
  by_cases h : i + 1 < c.length
  · rw [Nat.mod_eq_of_lt h, Nat.mod_eq_of_lt (by omega)]; omega
  · have : i + 1 = c.length := by omega
    rw [this, Nat.mod_self, show c.length - 1 - 0 + 1 = c.length from by omega, Nat.mod_self]; omega
theorem rot_get (c : List Nat) (k i : Nat) (hk : k ≤ c.length) (hi : i < c.length) : (c.drop k ++ c.take k)[i]? = c[(i + k) % c.length]? := by
  by_cases h : i < c.length - k
  · rw [List.getElem?_append_left (by simpa using h), List.getElem?_drop, Nat.mod_eq_of_lt (by omega), Nat.add_comm]
  · rw [List.getElem?_append_right (by simpa using h), List.length_drop, List.getElem?_take, if_pos (by omega)]
    congr 1
    rw [Nat.mod_eq_sub_mod (by omega), Nat.mod_eq_of_lt (by omega)]
    omega
theorem ring_rot {R : Nat → Nat → Prop} {c : List Nat} (h : Ring R c) (k : Nat) (hk : k ≤ c.length) : Ring R (c.drop k ++ c.take k) := by
  obtain ⟨h1, h2, h3⟩ := h
  have hlen : (c.drop k ++ c.take k).length = c.length := by simp; omega
  have hpos : 0 < c.length := List.length_pos_iff.2 h1
  refine ⟨fun e => ?_, ?_, ?_⟩
  · have := congrArg List.length e
    rw [hlen] at this
    simp at this
    exact h1 this
  · have h4 : (c.take k ++ c.drop k).Nodup := by rw [List.take_append_drop]; exact h2
    exact (List.perm_append_comm.nodup_iff).1 h4
  · intro i a b ha hb
    have hi : i < c.length := by
      rcases Nat.lt_or_ge i c.length with h | h
      · exact h
      · rw [List.getElem?_eq_none (by omega)] at ha; cases ha
    rw [hlen] at hb
    rw [rot_get c k i hk hi] at ha
    rw [rot_get c k _ hk (Nat.mod_lt _ hpos)] at hb
    refine h3 _ a b ha ?_
    rw [← hb]
    congr 1
    rw [Nat.mod_add_mod, Nat.mod_add_mod]
    congr 1
    omega
theorem ring_turned {R : Nat → Nat → Prop} {c : List Nat} (h : Ring R c) : Ring (fun a b => R b a) (turned c) := by
  unfold turned
  exact ring_rot (ring_reverse h) _ (List.idxOf_le_length ..)
theorem mem_turned (c : List Nat) (z : Nat) : z ∈ turned c ↔ z ∈ c := by
  unfold turned
  rw [List.mem_append, Or.comm, ← List.mem_append, List.take_append_drop, List.mem_reverse]
/-- what holds of every state -/
structure Good (E : Edges) (n : Nat) (s : St) : Prop where
  ords : ∀ k, s.done k = true ↔ k ∈ s.order
  nodup : s.order.Nodup
  lt : ∀ k ∈ s.order, k < n
  edge : ∀ i, i < E.length → s.gone i = false → s.done (E.getD i (0, 0)).1 = false ∧ s.done (E.getD i (0, 0)).2 = false
  cnt : s.cycles.length + leftN E s.gone ≤ E.length
  rings : ∀ c ∈ s.cycles, Ring (fun a b => (a, b) ∈ E) c ∧ 2 ≤ c.length
theorem Good.start (E : Edges) (n : Nat) : Good E n start := by
  refine ⟨fun k => by simp [Topo.start], by simp [Topo.start], by simp [Topo.start], fun i _ _ => ⟨rfl, rfl⟩, ?_, by simp [Topo.start]⟩
  have := List.length_filter_le (fun i => !Topo.start.gone i) (List.range E.length)
  rw [List.length_range] at this
  simpa [Topo.start, leftN] using this
theorem find_range {n : Nat} {p : Nat → Bool} {x : Nat} (h : (List.range n).find? p = some x) : x < n ∧ p x = true ∧ ∀ y, y < x → p y = false := by
  have h1 := List.mem_range.1 (List.mem_of_find?_eq_some h)
  refine ⟨h1, List.find?_some h, fun y hy => ?_⟩
  rw [List.find?_eq_some_iff_append] at h
  obtain ⟨-, as, bs, h2, h3⟩ := h
  have hl : (List.range n)[as.length]? = (as ++ x :: bs)[as.length]? := by rw [h2]
  rw [List.getElem?_append_right (Nat.le_refl _), Nat.sub_self, List.getElem?_cons_zero] at hl
  have hx : as.length = x := by
    have : as.length < n := by have := congrArg List.length h2; simp at this; omega
    rw [List.getElem?_range this] at hl
    exact Option.some.inj hl
  have hy2 : y ∈ as := by
    have h4 : (List.range n)[y]? = (as ++ x :: bs)[y]? := by rw [h2]
    rw [List.getElem?_append_left (by omega), List.getElem?_range (by omega)] at h4
    exact List.mem_of_getElem? h4.symm
  have := h3 y hy2
  simpa using this
theorem sub_len {α : Type} [BEq α] [LawfulBEq α] : ∀ (l m : List α), l.Nodup → (∀ x ∈ l, x ∈ m) → l.length ≤ m.length
  | [], m, _, _ => Nat.zero_le _
  | a :: l, m, hn, hs => by
    have h1 := List.nodup_cons.1 hn
    have ha := hs a (List.mem_cons_self ..)
    have ih := sub_len l (m.erase a) h1.2 fun x hx => by
      refine (List.mem_erase_of_ne ?_).2 (hs x (List.mem_cons_of_mem _ hx))
      intro e; subst e; exact h1.1 hx
    rw [List.length_erase_of_mem ha] at ih
    have := List.length_pos_of_mem ha
    simp
    omega
theorem first_some {n : Nat} {s : St} {E : Edges} (h : Good E n s) (hl : s.order.length < n) : ∃ x, firstOf n s.done = some x ∧ x < n ∧ s.done x = false := by
  cases hf : firstOf n s.done with
  | some x =>
    obtain ⟨h1, h2, -⟩ := find_range hf
    exact ⟨x, rfl, h1, by simpa using h2⟩
  | none =>
    exfalso
    have h1 : ∀ x ∈ List.range n, x ∈ s.order := by
      intro x hx
      have := find_none_iff.1 hf x hx
      exact (h.ords x).1 (by simpa using this)
    have h2 : (List.range n).length ≤ s.order.length := sub_len _ _ List.nodup_range h1
    simp at h2
    omega
/-- where no element is free: the cycle that is found -/
theorem cyc_ring {E : Edges} {n : Nat} {s : St} (hw : Wf E n) (h : Good E n s) (hf : freeOf E n s.gone s.done = none) {x : Nat} (hx : x < n) (hd : s.done x = false) :
    Ring (fun a b => ∃ i, i < E.length ∧ s.gone i = false ∧ E.getD i (0, 0) = (a, b)) (cyc E n s.gone x) ∧ 2 ≤ (cyc E n s.gone x).length ∧ ∀ z ∈ cyc E n s.gone x, z < n := by
  have hneed : ∀ y, (y < n ∧ s.done y = false) → need E s.gone y ≠ 0 := by
    rintro y ⟨h1, h2⟩ h3
    have := find_none_iff.1 hf y (List.mem_range.2 h1)
    simp [h2, h3] at this
  have hp : ∀ y, (y < n ∧ s.done y = false) → (prev E s.gone y < n ∧ s.done (prev E s.gone y) = false) := by
    intro y hy
    obtain ⟨i, h1, h2, h3⟩ := prev_edge (hneed y hy)
    have h4 := (hw.ends i h1).1
    have h5 := (h.edge i h1 h2).1
    rw [h3] at h4 h5
    exact ⟨h4, h5⟩
  obtain ⟨hr, hz⟩ := way_ring (E := E) (n := n) (gone := s.gone) (P := fun y => y < n ∧ s.done y = false) (fun y hy => hy.1) hp (n + 1) [] x (by simp) (fun z hz => by cases hz) ⟨hx, hd⟩ (by simp) (fun i a b ha => by simp at ha)
  have ht := ring_turned hr
  have hzt : ∀ z ∈ cyc E n s.gone x, z < n ∧ s.done z = false := fun z hz' => hz z ((mem_turned _ z).1 hz')
  have hring : Ring (fun a b => ∃ i, i < E.length ∧ s.gone i = false ∧ E.getD i (0, 0) = (a, b)) (cyc E n s.gone x) := by
    refine ⟨ht.1, ht.2.1, fun i a b ha hb => ?_⟩
    have h1 := ht.2.2 i a b ha hb
    have h2 := hzt b (List.mem_of_getElem? hb)
    obtain ⟨j, h3, h4, h5⟩ := prev_edge (hneed b h2)
    exact ⟨j, h3, h4, by rw [h5, h1]⟩
  refine ⟨hring, ?_, fun z hz' => (hzt z hz').1⟩
  have hpos := List.length_pos_iff.2 hring.1
  rcases Nat.lt_or_ge 1 (cyc E n s.gone x).length with h1 | h1
  · exact h1
  · exfalso
    have hl : (cyc E n s.gone x).length = 1 := by omega
    obtain ⟨a, ha⟩ := List.length_eq_one_iff.1 hl
    obtain ⟨j, h3, h4, h5⟩ := hring.2.2 0 a a (by rw [ha]; rfl) (by rw [ha]; simp)
    have := hw.apart j h3
    rw [h5] at this
    exact this rfl
theorem headD_get (c : List Nat) (h : c ≠ []) : c[0]? = some (c.headD 0) := by
  cases c with
  | nil => exact absurd rfl h
  | cons a c => rfl
theorem lastD_get (c : List Nat) (h : c ≠ []) : c[c.length - 1]? = some (c.getLastD 0) := by
  rw [← List.getLast?_eq_getElem?, List.getLastD_eq_getLast?]
  cases hc : c.getLast? with
  | none => exact absurd (List.getLast?_eq_none_iff.1 hc) h
  | some a => rfl
theorem leftN_mono {E : Edges} {g g' : Nat → Bool} (h : ∀ i, g i = true → g' i = true) : leftN E g' ≤ leftN E g :=
  filter_len_le _ _ _ fun x _ hx => by
    cases hg : g x with
    | false => rfl
    | true => rw [h x hg] at hx; cases hx
theorem leftN_lt {E : Edges} {g g' : Nat → Bool} (h : ∀ i, g i = true → g' i = true) {z : Nat} (hz : z < E.length) (h0 : g z = false) (h1 : g' z = true) : leftN E g' < leftN E g :=
  filter_len_lt _ _ z (by simp [h1]) (by simp [h0]) _ (fun x _ hx => by
    cases hg : g x with
    | false => rfl
    | true => rw [h x hg] at hx; cases hx) (List.mem_range.2 hz)
theorem mem_of_getD {E : Edges} {i : Nat} {e : Nat × Nat} (hi : i < E.length) (h : E.getD i (0, 0) = e) : e ∈ E := by
  rw [List.getD_eq_getElem?_getD, List.getElem?_eq_getElem hi] at h
  rw [← h]
  exact List.getElem_mem hi
/-- one step -/
theorem Good.next {E : Edges} {n : Nat} {s : St} (hw : Wf E n) (h : Good E n s) (hl : s.order.length < n) :
    Good E n (next E n s) ∧ ((next E n s).order.length = s.order.length + 1 ∧ (next E n s).cycles.length = s.cycles.length ∨ (next E n s).order.length = s.order.length ∧ (next E n s).cycles.length = s.cycles.length + 1 ∧ s.cycles.length < E.length) := by
  unfold Topo.next
  cases hf : freeOf E n s.gone s.done with
  | some f =>
    obtain ⟨h1, h2, -⟩ := find_range hf
    have hd : s.done f = false := by simp at h2; exact h2.1
    have hn : need E s.gone f = 0 := by simp at h2; exact h2.2
    refine ⟨⟨?_, ?_, ?_, ?_, ?_, h.rings⟩, .inl ⟨by simp, rfl⟩⟩
    · intro k
      simp [h.ords k]
    · show (s.order ++ [f]).Nodup
      rw [List.nodup_append]
      exact ⟨h.nodup, by simp, fun a ha b hb => by
        rw [List.mem_singleton] at hb; subst hb
        intro e; subst e
        rw [(h.ords a).2 ha] at hd; cases hd⟩
    · intro k hk
      rcases List.mem_append.1 hk with h3 | h3
      · exact h.lt k h3
      · rw [List.mem_singleton] at h3; subst h3; exact h1
    · intro i hi hg
      have hg' : s.gone i = false ∧ i ∉ outof E f := by
        have : (s.gone i || decide (i ∈ outof E f)) = false := by rw [← rems_eq]; exact hg
        simpa using this
      obtain ⟨h3, h4⟩ := h.edge i hi hg'.1
      refine ⟨?_, ?_⟩
      · show (s.done (E.getD i (0, 0)).1 || (E.getD i (0, 0)).1 == f) = false
        rw [h3]
        have : (E.getD i (0, 0)).1 ≠ f := fun e => hg'.2 ((mem_outof E f i).2 ⟨hi, e⟩)
        simpa using this
      · show (s.done (E.getD i (0, 0)).2 || (E.getD i (0, 0)).2 == f) = false
        rw [h4]
        have : (E.getD i (0, 0)).2 ≠ f := fun e => by
          have := need_zero.1 hn i hi e
          rw [hg'.1] at this; cases this
        simpa using this
    · have := leftN_mono (E := E) (g := s.gone) (g' := rems s.gone (outof E f)) (fun i hi => by rw [rems_eq, hi]; rfl)
      have := h.cnt
      show s.cycles.length + leftN E (rems s.gone (outof E f)) ≤ E.length
      omega
  | none =>
    obtain ⟨x, hx, hxn, hxd⟩ := first_some h hl
    have hcx : (firstOf n s.done).getD 0 = x := by rw [hx]; rfl
    simp only [hcx]
    obtain ⟨hr, h2, hz⟩ := cyc_ring hw h hf hxn hxd
    generalize cyc E n s.gone x = c at *
    have hmono : ∀ i, s.gone i = true → rems s.gone ((outof E (c.getLastD 0)).filter fun i => (E.getD i (0, 0)).2 == c.headD 0) i = true := fun i hi => by rw [rems_eq, hi]; rfl
    have hlen := List.length_pos_iff.2 hr.1
    obtain ⟨j, hj, hg, he⟩ := hr.2.2 (c.length - 1) _ _ (lastD_get c hr.1) (by rw [show c.length - 1 + 1 = c.length from by omega, Nat.mod_self]; exact headD_get c hr.1)
    have hlt := leftN_lt (E := E) hmono hj hg (by
      rw [rems_eq, hg]
      have : j ∈ (outof E (c.getLastD 0)).filter fun i => (E.getD i (0, 0)).2 == c.headD 0 := by
        rw [List.mem_filter, mem_outof]
        exact ⟨⟨hj, by rw [he]⟩, by rw [he]; simp⟩
      simp only [this, decide_true, Bool.or_true])
    have hcnt := h.cnt
    refine ⟨⟨h.ords, h.nodup, h.lt, ?_, ?_, ?_⟩, .inr (by simp; omega)⟩
    · intro i hi hg'
      refine h.edge i hi ?_
      cases hgi : s.gone i with
      | false => rfl
      | true =>
        have e : true = false := (hmono i hgi).symm.trans hg'
        cases e
    · show (s.cycles ++ [c]).length + leftN E (rems s.gone _) ≤ E.length
      rw [List.length_append]
      simp only [List.length_singleton]
      omega
    · intro c' hc'
      rcases List.mem_append.1 hc' with h3 | h3
      · exact h.rings c' h3
      · rw [List.mem_singleton] at h3
        subst h3
        refine ⟨⟨hr.1, hr.2.1, fun i a b ha hb => ?_⟩, h2⟩
        obtain ⟨q, hq, -, e⟩ := hr.2.2 i a b ha hb
        exact mem_of_getD hq e
end Go.Proofs.Ytlnbkljajocfoaa.Topo
