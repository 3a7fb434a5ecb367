/- Plain law: the reference's lists of names are the lists of numbers of the sort, named. No condition. -/
import Derived.Test.YtlnbkljajocfoaaTOut
import Derived.Test.YtlnbkljajocfoaaTWithout
namespace Go.Proofs.Ytlnbkljajocfoaa.TRefMath
open Go Topo Strs TPairs TGraph TRead TPlace TCons TRefBefore TWithout TSlices TCycle TOut

theorem nodup_get {α : Type} : ∀ {l : List α} {i j : Nat} {x : α}, l.Nodup → l[i]? = some x → l[j]? = some x → i = j
  | [], i, j, x, _, h, _ => by simp at h
  | a :: l, i, j, x, hn, hi, hj => by
    have h1 := List.nodup_cons.1 hn
    cases i with
    | zero =>
      cases j with
      | zero => rfl
      | succ j =>
        simp at hi hj
        subst hi
        exact absurd (List.mem_of_getElem? hj) h1.1
    | succ i =>
      cases j with
      | zero =>
        simp at hi hj
        subst hj
        exact absurd (List.mem_of_getElem? hi) h1.1
      | succ j =>
        simp at hi hj
        rw [nodup_get h1.2 hi hj]
theorem nm_inj {ls : List Str} (hn : ls.Nodup) {i j : Nat} (hi : i < ls.length) (hj : j < ls.length) (h : nm ls i = nm ls j) : i = j := by
  have h1 := nm_at hi
  have h2 := nm_at hj
  rw [h] at h1
  exact nodup_get hn h1 h2
/-- the names of a constraint -/
def nmE (ls : List Str) (e : Nat × Nat) : Str × Str := (nm ls e.1, nm ls e.2)
/-- the elements that are left, and the constraints, by name -/
def leftS (ls : List Str) (done : Nat → Bool) : List Str := ((List.range ls.length).filter fun i => !done i).map (nm ls)
def openS (ls : List Str) (E : Edges) (gone : Nat → Bool) : List (Str × Str) := ((List.range E.length).filter fun i => !gone i).map fun i => nmE ls (E.getD i (0, 0))
/-- the element from which the first constraint comes that ends at x -/
def prevS (cs : List (Str × Str)) (x : Str) : Str := match cs.find? (fun p => p.2 == x) with | some p => p.1 | none => x
theorem find_place (cs : List (Str × Str)) (x : Str) (h : x ∈ cs.map (·.2)) : ∃ p, cs.find? (fun p => p.2 == x) = some p ∧ cs[(cs.map (·.2)).idxOf x]? = some p := by
  induction cs with
  | nil => simp at h
  | cons a cs ih =>
    by_cases ha : a.2 = x
    · exact ⟨a, by simp [ha], by subst ha; simp⟩
    · have hb : (a.2 == x) = false := by simpa using ha
      have hx : x ∈ cs.map (·.2) := by
        rw [List.map_cons] at h
        rcases List.mem_cons.1 h with h | h
        · exact absurd h.symm ha
        · exact h
      obtain ⟨p, h1, h2⟩ := ih hx
      refine ⟨p, by rw [List.find?_cons, hb]; exact h1, ?_⟩
      rw [List.map_cons, List.idxOf_cons, hb]
      simpa using h2
theorem find_congr {α : Type} {p q : α → Bool} : ∀ {l : List α}, (∀ x ∈ l, p x = q x) → l.find? p = l.find? q
  | [], _ => rfl
  | a :: l, h => by
    rw [List.find?_cons, List.find?_cons, h a (List.mem_cons_self ..), find_congr fun x hx => h x (List.mem_cons_of_mem _ hx)]
section
variable {ls : List Str} {E : Edges} (hn : ls.Nodup) (hw : Wf E ls.length)
include hn hw
theorem open_find (gone : Nat → Bool) {y : Nat} (hy : y < ls.length) : (openS ls E gone).find? (fun p => p.2 == nm ls y) = ((into E y).find? fun i => !gone i).map fun i => nmE ls (E.getD i (0, 0)) := by
  unfold openS into idxs
  rw [List.find?_map, List.find?_filter, List.find?_filter]
  congr 1
  apply find_congr
  intro i hi
  have hi' := List.mem_range.1 hi
  have h2 := (hw.ends i hi').2
  rw [decide_eq_decide]
  show ((!gone i) = true ∧ (nm ls (E.getD i (0, 0)).2 == nm ls y) = true) ↔ (((E.getD i (0, 0)).2 == y) = true ∧ (!gone i) = true)
  rw [and_comm]
  by_cases e : (E.getD i (0, 0)).2 = y
  · rw [e]; simp
  · have : nm ls (E.getD i (0, 0)).2 ≠ nm ls y := fun h => e (nm_inj hn h2 hy h)
    rw [beq_eq_false_iff_ne.2 e, beq_eq_false_iff_ne.2 this]
theorem open_mem (gone : Nat → Bool) {y : Nat} (hy : y < ls.length) : nm ls y ∈ (openS ls E gone).map (·.2) ↔ need E gone y ≠ 0 := by
  constructor
  · intro h h0
    obtain ⟨p, h1, -⟩ := find_place _ _ h
    rw [open_find hn hw gone hy] at h1
    cases hf : (into E y).find? fun i => !gone i with
    | none => rw [hf] at h1; cases h1
    | some i =>
      have h2 := List.find?_some hf
      obtain ⟨h3, h4⟩ := (mem_into E y i).1 (List.mem_of_find?_eq_some hf)
      rw [need_zero.1 h0 i h3 h4] at h2
      cases h2
  · intro h
    obtain ⟨i, h1, h2, h3⟩ := prev_edge h
    unfold openS
    rw [List.map_map, List.mem_map]
    refine ⟨i, List.mem_filter.2 ⟨List.mem_range.2 h1, by simp [h2]⟩, ?_⟩
    show nm ls (E.getD i (0, 0)).2 = _
    rw [h3]
theorem bef_open (gone : Nat → Bool) {y : Nat} (hy : y < ls.length) : bef (openS ls E gone) (nm ls y) < 0 ↔ need E gone y = 0 := by
  unfold bef place
  by_cases h : nm ls y ∈ (openS ls E gone).map (·.2)
  · have := (open_mem hn hw gone hy).1 h
    rw [if_pos h]
    constructor
    · intro h1; omega
    · intro h1; exact absurd h1 this
  · rw [if_neg h]
    constructor
    · intro _
      rcases Nat.eq_zero_or_pos (need E gone y) with h1 | h1
      · exact h1
      · exact absurd ((open_mem hn hw gone hy).2 (by omega)) h
    · intro _; omega
theorem prev_open (gone : Nat → Bool) {y : Nat} (hy : y < ls.length) : prevS (openS ls E gone) (nm ls y) = nm ls (prev E gone y) := by
  unfold prevS
  rw [open_find hn hw gone hy]
  unfold prev
  cases (into E y).find? fun i => !gone i with
  | none => rfl
  | some i => rfl
/-- the way back, by name -/
def wayS (cs : List (Str × Str)) : Nat → List Str → Str → List Str
  | 0, path, _ => path
  | f + 1, path, x => if x ∈ path then path.drop (path.idxOf x) else wayS cs f (path ++ [x]) (prevS cs x)
omit hn hw in
theorem idx_map {g : Nat → Str} {P : Nat → Prop} (hg : ∀ a b, P a → P b → g a = g b → a = b) {x : Nat} (hx : P x) : ∀ l : List Nat, (∀ z ∈ l, P z) → (l.map g).idxOf (g x) = l.idxOf x
  | [], _ => rfl
  | a :: l, h => by
    rw [List.map_cons, List.idxOf_cons, List.idxOf_cons, idx_map hg hx l fun z hz => h z (List.mem_cons_of_mem _ hz)]
    by_cases e : a = x
    · subst e; simp
    · have : g a ≠ g x := fun h' => e (hg a x (h a (List.mem_cons_self ..)) hx h')
      rw [beq_eq_false_iff_ne.2 e, beq_eq_false_iff_ne.2 this]
omit hn hw in
theorem mem_map_inj {g : Nat → Str} {P : Nat → Prop} (hg : ∀ a b, P a → P b → g a = g b → a = b) {x : Nat} (hx : P x) {l : List Nat} (h : ∀ z ∈ l, P z) : g x ∈ l.map g ↔ x ∈ l := by
  constructor
  · intro hm
    obtain ⟨a, h1, h2⟩ := List.mem_map.1 hm
    rw [← hg a x (h a h1) hx h2]
    exact h1
  · intro hm
    exact List.mem_map.2 ⟨x, hm, rfl⟩
theorem way_open (gone : Nat → Bool) (hp : ∀ y, y < ls.length → prev E gone y < ls.length) : ∀ (f : Nat) (path : List Nat) (x : Nat), (∀ z ∈ path, z < ls.length) → x < ls.length → wayS (openS ls E gone) f (path.map (nm ls)) (nm ls x) = (way E gone f path x).map (nm ls)
  | 0, path, x, _, _ => by simp [wayS, way]
  | f + 1, path, x, h, hx => by
    unfold wayS way
    have hg : ∀ a b, a < ls.length → b < ls.length → nm ls a = nm ls b → a = b := fun a b ha hb e => nm_inj hn ha hb e
    by_cases hm : x ∈ path
    · rw [if_pos hm, if_pos ((mem_map_inj (P := fun z => z < ls.length) hg hx h).2 hm), idx_map (P := fun z => z < ls.length) hg hx path h, List.map_drop]
    · rw [if_neg hm, if_neg (fun h' => hm ((mem_map_inj (P := fun z => z < ls.length) hg hx h).1 h')), prev_open hn hw gone hx]
      have := way_open gone hp f (path ++ [x]) (prev E gone x) (fun z hz => by
        rcases List.mem_append.1 hz with h1 | h1
        · exact h z h1
        · rw [List.mem_singleton] at h1; rw [h1]; exact hx) (hp x hx)
      rw [List.map_append] at this
      exact this
omit hn in
theorem prev_lt (gone : Nat → Bool) {y : Nat} (hy : y < ls.length) : prev E gone y < ls.length := by
  unfold prev
  cases hf : (into E y).find? fun i => !gone i with
  | none => exact hy
  | some i => exact (hw.ends i ((mem_into E y i).1 (List.mem_of_find?_eq_some hf)).1).1
end
/-- the index of the element of the least place, as the reference finds it -/
def fmin (pl : Str → Int) (q : List Str) : Nat → Nat
  | 0 => 0
  | k + 1 => if pl (q.getD (k + 1) []) < pl (q.getD (fmin pl q k) []) then k + 1 else fmin pl q k
/-- the elements of a cycle, backwards, from the one that was named first -/
def turnedS (named q : List Str) : List Str := (List.range q.length).map fun i => q.reverse.getD ((fmin (place named) q.reverse (q.length - 1) + i) % q.length) []
theorem fmin_spec (pl : Str → Int) (q : List Str) : ∀ k, fmin pl q k ≤ k ∧ (∀ j, j ≤ k → pl (q.getD (fmin pl q k) []) ≤ pl (q.getD j [])) ∧ ∀ j, j < fmin pl q k → pl (q.getD (fmin pl q k) []) < pl (q.getD j [])
  | 0 => ⟨Nat.le_refl _, fun j hj => by rw [Nat.le_zero.1 hj]; exact Int.le_refl _, fun j hj => by simp [fmin] at hj⟩
  | k + 1 => by
    obtain ⟨h1, h2, h3⟩ := fmin_spec pl q k
    unfold fmin
    by_cases h : pl (q.getD (k + 1) []) < pl (q.getD (fmin pl q k) [])
    · rw [if_pos h]
      refine ⟨Nat.le_refl _, fun j hj => ?_, fun j hj => ?_⟩
      · by_cases e : j = k + 1
        · rw [e]; exact Int.le_refl _
        · have := h2 j (by omega); omega
      · have := h2 j (by omega); omega
    · rw [if_neg h]
      refine ⟨by omega, fun j hj => ?_, h3⟩
      by_cases e : j = k + 1
      · rw [e]; omega
      · exact h2 j (by omega)
theorem min_le_all : ∀ (l : List Nat) (x : Nat), (l.foldl min x ≤ x) ∧ ∀ y ∈ l, l.foldl min x ≤ y
  | [], x => ⟨Nat.le_refl _, fun y hy => by cases hy⟩
  | a :: l, x => by
    obtain ⟨h1, h2⟩ := min_le_all l (min x a)
    rw [List.foldl_cons]
    refine ⟨Nat.le_trans h1 (Nat.min_le_left ..), fun y hy => ?_⟩
    rcases List.mem_cons.1 hy with h | h
    · rw [h]; exact Nat.le_trans h1 (Nat.min_le_right ..)
    · exact h2 y h
theorem minOf_le (q : List Nat) : ∀ y ∈ q, minOf q ≤ y := by
  cases q with
  | nil => intro y h; cases h
  | cons x l =>
    intro y h
    rcases List.mem_cons.1 h with e | e
    · rw [e]; exact (min_le_all l x).1
    · exact (min_le_all l x).2 y e
/-- in a list that ascends, places are ordered as the elements -/
theorem place_lt {ls : List Str} (hn : ls.Nodup) (done : Nat → Bool) {a b : Nat} (ha : a < ls.length) (hb : b < ls.length) (da : done a = false) (db : done b = false) : place (leftS ls done) (nm ls a) < place (leftS ls done) (nm ls b) ↔ a < b := by
  have hg : ∀ a b, a < ls.length → b < ls.length → nm ls a = nm ls b → a = b := fun a b ha hb e => nm_inj hn ha hb e
  have hP : ∀ z ∈ (List.range ls.length).filter (fun i => !done i), z < ls.length := fun z hz => List.mem_range.1 (List.mem_filter.1 hz).1
  have hma : a ∈ (List.range ls.length).filter (fun i => !done i) := List.mem_filter.2 ⟨List.mem_range.2 ha, by simp [da]⟩
  have hmb : b ∈ (List.range ls.length).filter (fun i => !done i) := List.mem_filter.2 ⟨List.mem_range.2 hb, by simp [db]⟩
  unfold leftS place
  rw [if_pos ((mem_map_inj (P := fun z => z < ls.length) hg ha hP).2 hma), if_pos ((mem_map_inj (P := fun z => z < ls.length) hg hb hP).2 hmb), idx_map (P := fun z => z < ls.length) hg ha _ hP, idx_map (P := fun z => z < ls.length) hg hb _ hP]
  have hs : ((List.range ls.length).filter (fun i => !done i)).Pairwise (· < ·) := List.Pairwise.filter _ List.pairwise_lt_range
  generalize (List.range ls.length).filter (fun i => !done i) = l at *
  have key : ∀ (l : List Nat), l.Pairwise (· < ·) → ∀ a b, a ∈ l → b ∈ l → a < b → l.idxOf a < l.idxOf b := by
    intro l
    induction l with
    | nil => intro _ a b h; cases h
    | cons x l ih =>
      intro hs a b ha hb hab
      obtain ⟨h1, h2⟩ := List.pairwise_cons.1 hs
      rw [List.idxOf_cons, List.idxOf_cons]
      have hxb : x ≠ b := by
        intro e
        subst e
        rcases List.mem_cons.1 ha with e | e
        · omega
        · have := h1 a e; omega
      rw [beq_eq_false_iff_ne.2 hxb]
      by_cases hxa : x = a
      · subst hxa; simp
      · rw [beq_eq_false_iff_ne.2 hxa]
        have := ih h2 a b ((List.mem_cons.1 ha).resolve_left (Ne.symm hxa)) ((List.mem_cons.1 hb).resolve_left (Ne.symm hxb)) hab
        simp
        exact this
  constructor
  · intro h
    rcases Nat.lt_trichotomy a b with h1 | h1 | h1
    · exact h1
    · rw [h1] at h; omega
    · have := key l hs b a hmb hma h1; omega
  · intro h
    have := key l hs a b hma hmb h
    omega
theorem getD_map (ls : List Str) (q : List Nat) (i : Nat) (hi : i < q.length) : (q.map (nm ls)).getD i [] = nm ls (q.getD i 0) := by
  rw [List.getD_eq_getElem?_getD, List.getD_eq_getElem?_getD, List.getElem?_map, List.getElem?_eq_getElem hi]
  rfl
theorem turned_open {ls : List Str} (hn : ls.Nodup) (done : Nat → Bool) (q : List Nat) (hq : q ≠ []) (hnd : q.Nodup) (hz : ∀ z ∈ q, z < ls.length ∧ done z = false) : turnedS (leftS ls done) (q.map (nm ls)) = (turned q).map (nm ls) := by
  have hpos := List.length_pos_iff.2 hq
  unfold turnedS turned
  rw [← List.map_reverse, List.length_map]
  have hr : q.reverse.length = q.length := List.length_reverse ..
  have hzr : ∀ z ∈ q.reverse, z < ls.length ∧ done z = false := fun z h => hz z (List.mem_reverse.1 h)
  have hndr : q.reverse.Nodup := (List.reverse_perm q).nodup_iff.2 hnd
  generalize q.reverse = r at *
  rw [← hr]
  rw [← hr] at hpos
  obtain ⟨f1, f2, f3⟩ := fmin_spec (place (leftS ls done)) (r.map (nm ls)) (r.length - 1)
  generalize hk : fmin (place (leftS ls done)) (r.map (nm ls)) (r.length - 1) = k at *
  have hkl : k < r.length := by omega
  have hk2 : r[k]? = some (r.getD k 0) := by
    rw [List.getD_eq_getElem?_getD, List.getElem?_eq_getElem hkl]
    rfl
  have hkm := hzr _ (List.mem_of_getElem? hk2)
  have hmin : r.getD k 0 = minOf r := by
    apply Nat.le_antisymm
    · have hm := minOf_mem r (by intro e; rw [e] at hpos; simp at hpos)
      obtain ⟨j, hj⟩ := List.getElem?_of_mem hm
      have hjl : j < r.length := by
        rcases Nat.lt_or_ge j r.length with h | h
        · exact h
        · rw [List.getElem?_eq_none h] at hj; cases hj
      have h1 := f2 j (by omega)
      rw [getD_map ls r j hjl, getD_map ls r k hkl] at h1
      have hj2 : r.getD j 0 = minOf r := by rw [List.getD_eq_getElem?_getD, hj]; rfl
      rw [hj2] at h1
      have h2 := hzr _ hm
      rcases Nat.lt_or_ge (minOf r) (r.getD k 0) with h3 | h3
      · have := (place_lt hn done h2.1 hkm.1 h2.2 hkm.2).2 h3
        omega
      · exact h3
    · exact minOf_le r _ (List.mem_of_getElem? hk2)
  have hidx : r.idxOf (minOf r) = k := by
    rw [← hmin]
    exact idxOf_hit hk2 fun j y hj hy e => by
      have := nodup_get hndr hk2 (by rw [← e]; exact hy)
      omega
  rw [hidx]
  apply List.ext_getElem?
  intro i
  rw [List.getElem?_map, List.getElem?_map]
  by_cases hi : i < r.length
  · rw [List.getElem?_range hi, rot_get r k i (by omega) hi, List.getElem?_eq_getElem (Nat.mod_lt _ hpos)]
    show some ((r.map (nm ls)).getD ((k + i) % r.length) []) = some (nm ls (r[(i + k) % r.length]'(Nat.mod_lt _ hpos)))
    rw [getD_map ls r _ (Nat.mod_lt _ hpos), Nat.add_comm k i, List.getD_eq_getElem?_getD, List.getElem?_eq_getElem (Nat.mod_lt _ hpos)]
    rfl
  · rw [List.getElem?_eq_none (by simp; omega), List.getElem?_eq_none (by simp; omega)]
    rfl
end Go.Proofs.Ytlnbkljajocfoaa.TRefMath
