/- Plain mathematics of the sort: constraints between numbers, which are gone, which elements are done, the next state. No condition. -/
namespace Go.Proofs.Ytlnbkljajocfoaa.Topo
abbrev Edges := List (Nat × Nat)
/-- the constraints that p holds of, by their places, in order -/
def idxs (E : Edges) (p : Nat × Nat → Bool) : List Nat := (List.range E.length).filter fun i => p (E.getD i (0, 0))
def into (E : Edges) (j : Nat) : List Nat := idxs E fun e => e.2 == j
def outof (E : Edges) (j : Nat) : List Nat := idxs E fun e => e.1 == j
theorem idxs_snoc (E : Edges) (e : Nat × Nat) (p : Nat × Nat → Bool) : idxs (E ++ [e]) p = idxs E p ++ if p e then [E.length] else [] := by
  unfold idxs
  rw [List.length_append, show [e].length = 1 from rfl, List.range_succ, List.filter_append]
  congr 1
  · apply List.filter_congr
    intro i hi
    have := List.mem_range.1 hi
    rw [List.getD_eq_getElem?_getD, List.getD_eq_getElem?_getD, List.getElem?_append_left this]
  · simp [List.filter_cons]
theorem into_snoc (E : Edges) (e : Nat × Nat) (j : Nat) : into (E ++ [e]) j = into E j ++ if e.2 = j then [E.length] else [] := by
  unfold into; rw [idxs_snoc]; simp
theorem outof_snoc (E : Edges) (e : Nat × Nat) (j : Nat) : outof (E ++ [e]) j = outof E j ++ if e.1 = j then [E.length] else [] := by
  unfold outof; rw [idxs_snoc]; simp
theorem mem_idxs (E : Edges) (p : Nat × Nat → Bool) (i : Nat) : i ∈ idxs E p ↔ i < E.length ∧ p (E.getD i (0, 0)) = true := by simp [idxs]
theorem mem_into (E : Edges) (j i : Nat) : i ∈ into E j ↔ i < E.length ∧ (E.getD i (0, 0)).2 = j := by simp [into, mem_idxs]
theorem mem_outof (E : Edges) (j i : Nat) : i ∈ outof E j ↔ i < E.length ∧ (E.getD i (0, 0)).1 = j := by simp [outof, mem_idxs]
theorem idxs_nodup (E : Edges) (p : Nat × Nat → Bool) : (idxs E p).Nodup := List.Pairwise.filter _ List.nodup_range
theorem idxs_length (E : Edges) (p : Nat × Nat → Bool) : (idxs E p).length ≤ E.length := by
  have := List.length_filter_le (fun i => p (E.getD i (0, 0))) (List.range E.length)
  simpa [idxs] using this
/-- how many constraints that end at an element are left -/
def need (E : Edges) (gone : Nat → Bool) (j : Nat) : Nat := ((into E j).filter fun i => !gone i).length
/-- one constraint more is gone -/
def rem (gone : Nat → Bool) (i : Nat) : Nat → Bool := fun k => gone k || k == i
theorem rem_gone (gone : Nat → Bool) (i : Nat) (h : gone i = true) : rem gone i = gone := by
  funext k
  by_cases e : k = i
  · subst e; simp [rem, h]
  · simp [rem, e]
theorem filter_rem (gone : Nat → Bool) (i : Nat) (hg : gone i = false) : ∀ l : List Nat, l.Nodup → (l.filter fun k => !gone k).length = (l.filter fun k => !rem gone i k).length + if i ∈ l then 1 else 0
  | [], _ => rfl
  | k :: l, h => by
    have h2 := List.nodup_cons.1 h
    have ih := filter_rem gone i hg l h2.2
    rw [List.filter_cons, List.filter_cons]
    by_cases e : k = i
    · subst e
      have hr : rem gone k k = true := by simp [rem]
      rw [hg, hr, if_neg h2.1] at *
      simp only [Bool.not_false, Bool.not_true, if_true, List.length_cons, List.mem_cons, true_or]
      rw [ih, if_neg (by simp)]
    · have hr : rem gone i k = gone k := by simp [rem, e]
      have hm : (if i ∈ k :: l then 1 else 0) = if i ∈ l then 1 else 0 := by simp [Ne.symm e]
      rw [hr, hm]
      cases gone k
      · simp only [Bool.not_false, if_true, List.length_cons]; omega
      · simp only [Bool.not_true, Bool.false_eq_true, if_false]; exact ih
theorem need_rem (E : Edges) (gone : Nat → Bool) (i j : Nat) (hi : i < E.length) (hg : gone i = false) : need E gone j = need E (rem gone i) j + if (E.getD i (0, 0)).2 = j then 1 else 0 := by
  have := filter_rem gone i hg (into E j) (idxs_nodup _ _)
  unfold need
  rw [this]
  congr 1
  by_cases h : (E.getD i (0, 0)).2 = j
  · rw [if_pos h, if_pos ((mem_into E j i).2 ⟨hi, h⟩)]
  · rw [if_neg h, if_neg (fun hm => h ((mem_into E j i).1 hm).2)]
/-- the first element that is neither done nor waits -/
def freeOf (E : Edges) (n : Nat) (gone done : Nat → Bool) : Option Nat := (List.range n).find? fun i => !done i && need E gone i == 0
def firstOf (n : Nat) (done : Nat → Bool) : Option Nat := (List.range n).find? fun i => !done i
/-- from where the first constraint comes that is left -/
def prev (E : Edges) (gone : Nat → Bool) (x : Nat) : Nat := match (into E x).find? fun i => !gone i with | some i => (E.getD i (0, 0)).1 | none => x
/-- the way back, until an element is met again -/
def way (E : Edges) (gone : Nat → Bool) : Nat → List Nat → Nat → List Nat
  | 0, path, _ => path
  | f + 1, path, x => if x ∈ path then path.drop (path.idxOf x) else way E gone f (path ++ [x]) (prev E gone x)
def minOf : List Nat → Nat
  | [] => 0
  | x :: l => l.foldl min x
/-- a cycle, from its least element on -/
def turned (p : List Nat) : List Nat := p.reverse.drop (p.reverse.idxOf (minOf p.reverse)) ++ p.reverse.take (p.reverse.idxOf (minOf p.reverse))
def cyc (E : Edges) (n : Nat) (gone : Nat → Bool) (x : Nat) : List Nat := turned (way E gone (n + 1) [] x)
structure St where
  gone : Nat → Bool
  done : Nat → Bool
  order : List Nat
  cycles : List (List Nat)
def start : St := ⟨fun _ => false, fun _ => false, [], []⟩
/-- the constraints of a list are gone -/
def rems (gone : Nat → Bool) (l : List Nat) : Nat → Bool := l.foldl rem gone
def next (E : Edges) (n : Nat) (s : St) : St :=
  match freeOf E n s.gone s.done with
  | some f => ⟨rems s.gone (outof E f), fun k => s.done k || k == f, s.order ++ [f], s.cycles⟩
  | none =>
    let c := cyc E n s.gone ((firstOf n s.done).getD 0)
    ⟨rems s.gone ((outof E (c.getLastD 0)).filter fun i => (E.getD i (0, 0)).2 == c.headD 0), s.done, s.order, s.cycles ++ [c]⟩
def run (E : Edges) (n : Nat) : Nat → St
  | 0 => start
  | k + 1 => next E n (run E n k)
end Go.Proofs.Ytlnbkljajocfoaa.Topo
