/- A machine that runs a program's code on written inputs by computation alone, part 19: what each operation of a region that draws its order does, in the order of the text. No condition. -/
import Derived.Test.YtcnclcfglfgjlaaGreatDoorCxMix
namespace Go.Proofs.YtcnclcfglfgjlaaGreatDoor.Cx
open Go

section
variable {P : Program} {G : Gl} {rec : Rec} {ops : Array Oper} {anc : List Nat}
theorem eraseAll_get : ∀ (l : List Nat) (t : Tr AObj) (b : Nat), (∀ c ∈ l, c ≤ lim) → (eraseAll l t).get b = if b ∈ l then none else t.get b
  | [], t, b, _ => by simp [eraseAll]
  | c :: l, t, b, h => by
    have hc : c ≤ lim := h c (by simp)
    simp only [eraseAll, setK_eq]
    rw [eraseAll_get l _ b fun d hd => h d (by simp [hd])]
    by_cases hb : b ∈ l
    · rw [if_pos hb, if_pos (by simp [hb])]
    · rw [if_neg hb]
      by_cases hbc : b = c
      · subst hbc
        rw [if_pos (by simp), Tr.get_set _ _ _ (by unfold deep; unfold lim at hc; omega)]
      · rw [if_neg (by simp [hb, hbc]), Tr.get_set_ne _ _ _ _ hbc]
theorem overlay_get (src : Tr AObj) : ∀ (l : List Nat) (t h : Tr AObj) (b : Nat), overlay src l t = some h → h.get b = if b ∈ l then src.get b else t.get b
  | [], t, h, b, ho => by cases ho; simp
  | c :: l, t, h, b, ho => by
    unfold overlay at ho
    split at ho
    · rename_i hc
      have hc := ble_le hc
      have ho : overlay src l (t.set deep c (src.get c)) = some h := by
        split at ho
        · rename_i o hs; rw [hs]; simpa only [setK_eq] using ho
        · rename_i hs; rw [hs]; simpa only [setK_eq] using ho
      rw [overlay_get src l _ h b ho]
      by_cases hb : b ∈ l
      · rw [if_pos hb, if_pos (by simp [hb])]
      · rw [if_neg hb]
        by_cases hbc : b = c
        · subst hbc
          rw [if_pos (by simp), Tr.get_set _ _ _ (by unfold deep; unfold lim at hc; omega)]
        · rw [if_neg (by simp [hb, hbc]), Tr.get_set_ne _ _ _ _ hbc]
    · cases ho
theorem mem_touched {lo hi b : Nat} {l : List Nat} : b ∈ touched lo hi l ↔ b ∈ l ∧ ¬ (lo ≤ b ∧ b < hi) := by
  unfold touched
  rw [List.mem_filter]
  simp only [Bool.not_eq_true', Bool.and_eq_false_iff]
  constructor
  · rintro ⟨h1, h2⟩
    refine ⟨h1, fun h3 => ?_⟩
    rcases h2 with h2 | h2
    · rw [Nat.ble_eq_true_of_le h3.1] at h2; cases h2
    · have : Nat.blt b hi = true := by rw [Nat.blt_eq]; exact h3.2
      rw [this] at h2; cases h2
  · rintro ⟨h1, h2⟩
    refine ⟨h1, ?_⟩
    rcases Nat.lt_or_ge b lo with h3 | h3
    · left
      cases hb : Nat.ble lo b
      · rfl
      · have := ble_le hb; omega
    · right
      cases hb : Nat.blt b hi
      · rfl
      · rw [Nat.blt_eq] at hb; exact absurd ⟨h3, hb⟩ h2
theorem mem_range1 {lo n b : Nat} : b ∈ List.range' lo n ↔ lo ≤ b ∧ b < lo + n := List.mem_range'_1

/-- what an operation that looked at the heap did -/
structure Heaped (P : Program) (G : Gl) (rec : Rec) (anc : List Nat) (k : Nat) (o : Oper) (d d' : DS) (v : Value) (t : HS) (rem nms : List Nat) : Prop where
  rem_eq : rem = (d.done.filter fun x => !isAnc anc x.k k).flatMap (·.nms)
  run : stepOp P G rec d.f ⟨eraseAll rem d.s.heap, d.s.next, []⟩ o = some (v, t)
  low : ∀ b ∈ t.log, (d.s.next ≤ b ∧ b < t.next) ∨ (b < d.s.next ∧ b ∉ rem)
  free : ∀ x ∈ d.done, isAnc anc x.k k = false → ∀ b ∈ t.log, d.s.next ≤ b ∧ b < t.next
  room : t.next ≤ lim
  names : ∀ b, b ∈ nms ↔ (d.s.next ≤ b ∧ b < t.next) ∨ b ∈ t.log
  next : d'.s.next = t.next
  log : d'.s.log = t.log ++ d.s.log
  here : ∀ b, b ∈ nms → d'.s.at b = t.at b
  keep : ∀ b, b ∉ nms → d'.s.at b = d.s.at b
  put : d.f.putO o.dst v = some d'.f
  done : d'.done = ⟨k, nms⟩ :: d.done
inductive One (P : Program) (G : Gl) (rec : Rec) (ops : Array Oper) (anc : List Nat) (k : Nat) (o : Oper) (d d' : DS) : Prop where
  | off : wantedA ops d.f o = false → d.f.putO o.dst undef = some d'.f → d'.s = d.s → d'.done = d.done → One P G rec ops anc k o d d'
  | val (v : Value) : wantedA ops d.f o = true → o.op.operands.all (okOp G) = true → heapless P d.f o = some v → d.f.putO o.dst v = some d'.f → d'.s = d.s → d'.done = d.done → One P G rec ops anc k o d d'
  | heap (v : Value) (t : HS) (rem nms : List Nat) : wantedA ops d.f o = true → o.op.operands.all (okOp G) = true → Heaped P G rec anc k o d d' v t rem nms → One P G rec ops anc k o d d'

theorem free_spec {inc : List DRec} {tch : List Nat} (h : free inc tch = true) : inc = [] ∨ tch = [] := by
  unfold free at h
  split at h
  · exact .inl rfl
  · exact .inr rfl
  · cases h
theorem joinA_spec {s t s' : HS} {inc : List DRec} {rem tch nms : List Nat} (h : joinA s t inc rem tch = some (s', nms)) :
    t.next ≤ lim ∧ (∀ b ∈ tch, b < s.next ∧ b ∉ rem) ∧ (inc = [] ∨ tch = []) ∧ nms = List.range' s.next (t.next - s.next) ++ tch ∧ s'.next = t.next ∧ s'.log = t.log ++ s.log ∧
      ((rem = [] ∧ s'.heap = t.heap) ∨ overlay t.heap nms s.heap = some s'.heap) := by
  have key : (Nat.ble t.next lim && tch.all (fun b => Nat.blt b s.next && !rem.contains b)) = true → t.next ≤ lim ∧ (∀ b ∈ tch, b < s.next ∧ b ∉ rem) := by
    intro h
    rw [Bool.and_eq_true] at h
    refine ⟨ble_le h.1, fun b hb => ?_⟩
    have := List.all_eq_true.1 h.2 b hb
    rw [Bool.and_eq_true, Nat.blt_eq] at this
    exact ⟨this.1, by simpa using this.2⟩
  unfold joinA at h
  split at h
  · rename_i h2 h1
    cases h
    obtain ⟨k1, k2⟩ := key h1
    exact ⟨k1, k2, free_spec h2, rfl, rfl, rfl, .inl ⟨rfl, rfl⟩⟩
  · rename_i h2 _ h1
    obtain ⟨k1, k2⟩ := key h1
    split at h
    · rename_i hp ho
      cases h
      exact ⟨k1, k2, free_spec h2, rfl, rfl, rfl, .inr ho⟩
    · cases h
  · cases h
theorem drawn1_one (R : Good P G rec) {k : Nat} {o : Oper} {d d' : DS} (h : drawn1 P G rec ops anc k o d = some d') : One P G rec ops anc k o d d' := by
  unfold drawn1 at h
  split at h
  · rename_i hw
    split at h
    · rename_i f1 hp; cases h; exact .off hw hp rfl rfl
    · cases h
  · rename_i hw
    split at h
    · cases h
    · rename_i hok
      rw [allOk_eq] at hok
      split at h
      · rename_i v hv
        split at h
        · rename_i f1 hp; cases h; exact .val v hw hok hv hp rfl rfl
        · cases h
      · split at h
        · rename_i v s1 nms hh
          split at h
          · rename_i f1 hp
            cases h
            unfold heapStep at hh
            split at hh
            · rename_i v1 t hrun
              split at hh
              · rename_i s2 nms2 hj
                cases hh
                obtain ⟨j1, j2, j3, j4, j5, j6, j7⟩ := joinA_spec hj
                obtain ⟨l, K⟩ := stepOp_keeps R hrun
                have hl : l = t.log := by have := K.log; simpa using this.symm
                subst hl
                have hle : d.s.next ≤ t.next := K.le
                have hnames : ∀ b, b ∈ nms ↔ (d.s.next ≤ b ∧ b < t.next) ∨ b ∈ t.log := by
                  intro b
                  rw [j4, List.mem_append, mem_range1, mem_touched]
                  constructor
                  · rintro (h | h)
                    · exact .inl (by omega)
                    · exact .inr h.1
                  · rintro (h | h)
                    · exact .inl (by omega)
                    · by_cases hb : d.s.next ≤ b ∧ b < t.next
                      · exact .inl (by omega)
                      · exact .inr ⟨h, hb⟩
                refine .heap v t _ nms hw hok ⟨rfl, hrun, ?_, ?_, j1, hnames, j5, j6, ?_, ?_, hp, rfl⟩
                · intro b hb
                  by_cases hx : d.s.next ≤ b ∧ b < t.next
                  · exact .inl hx
                  · exact .inr (j2 b (mem_touched.2 ⟨hb, hx⟩))
                · intro x hx hax b hb
                  rcases j3 with j3 | j3
                  · have : x ∈ d.done.filter fun x => !isAnc anc x.k k := List.mem_filter.2 ⟨hx, by simp [hax]⟩
                    rw [j3] at this
                    cases this
                  · refine Classical.byContradiction fun hn => ?_
                    have : b ∈ touched d.s.next t.next t.log := mem_touched.2 ⟨hb, hn⟩
                    rw [j3] at this
                    cases this
                · intro b hb
                  rcases j7 with ⟨_, j7⟩ | j7
                  · unfold HS.at
                    rw [j7]
                  · have := overlay_get t.heap nms d.s.heap s1.heap b j7
                    rw [if_pos hb] at this
                    exact this
                · intro b hb
                  rcases j7 with ⟨j6', j7⟩ | j7
                  · have hb' := hb
                    rw [hnames] at hb'
                    simp only [not_or] at hb'
                    have hk := K.keep b (by show b < d.s.next ∨ t.next ≤ b; omega) hb'.2
                    rw [j6'] at hk
                    unfold HS.at at hk ⊢
                    rw [j7]
                    exact hk
                  · have := overlay_get t.heap nms d.s.heap s1.heap b j7
                    rw [if_neg hb] at this
                    exact this
              · cases hh
            · cases hh
          · cases h
        · cases h
end
end Go.Proofs.YtcnclcfglfgjlaaGreatDoor.Cx
