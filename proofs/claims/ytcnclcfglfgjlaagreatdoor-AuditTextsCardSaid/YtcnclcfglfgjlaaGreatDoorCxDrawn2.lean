/- A machine that runs a program's code on written inputs by computation alone, part 20: a region that draws its order does what its text's order does. No condition. -/
import Derived.Test.YtcnclcfglfgjlaaGreatDoorCxDrawn
namespace Go.Proofs.YtcnclcfglfgjlaaGreatDoor.Cx
open Go

section
variable {P : Program} {G : Gl} {rec : Rec} {ops : Array Oper} {anc : List Nat}
theorem drawnGo_states : ∀ (l : List Oper) (k : Nat) (d e : DS), drawnGo P G rec ops anc l k d = some e →
    ∃ st : Nat → DS, st 0 = d ∧ st l.length = e ∧ ∀ i o, l[i]? = some o → drawn1 P G rec ops anc (k + i) o (st i) = some (st (i + 1))
  | [], k, d, e, h => by
    cases h
    exact ⟨fun _ => d, rfl, rfl, fun i o ho => by simp at ho⟩
  | o :: l, k, d, e, h => by
    unfold drawnGo at h
    split at h
    · rename_i d1 h1
      obtain ⟨st, s0, sn, hs⟩ := drawnGo_states l (k + 1) d1 e h
      refine ⟨fun i => match i with | 0 => d | i + 1 => st i, rfl, sn, fun i o' ho => ?_⟩
      cases i with
      | zero =>
        simp only [List.getElem?_cons_zero, Option.some.injEq] at ho
        subst ho
        show drawn1 P G rec ops anc k o d = some (st 0)
        rw [s0]
        exact h1
      | succ i =>
        have := hs i o' (by simpa using ho)
        rw [show k + (i + 1) = k + 1 + i by omega]
        exact this
    · cases h
theorem statOk_spec : ∀ (l : List Oper) (k : Nat), statOk ops anc l k = true → ∀ i o, l[i]? = some o → ancOk1 anc (k + i) o = true ∧ apartOk1 ops anc (k + i) o = true
  | [], k, _, i, o, ho => by simp at ho
  | x :: l, k, h, i, o, ho => by
    simp only [statOk, Bool.and_eq_true] at h
    cases i with
    | zero =>
      simp only [List.getElem?_cons_zero, Option.some.injEq] at ho
      subst ho
      exact ⟨h.1, h.2.1⟩
    | succ i =>
      have := statOk_spec l (k + 1) h.2.2 i o (by simpa using ho)
      rw [show k + (i + 1) = k + 1 + i by omega]
      exact this

/-- the names that an operation made or touched, and the temporary that it fills -/
def nmsAt (st : Nat → DS) (k : Nat) : List Nat := match (st (k + 1)).done with
  | x :: _ => if x.k = k then x.nms else []
  | [] => []
def NB (st : Nat → DS) (k b : Nat) : Bool := decide (b ∈ nmsAt st k)
def TB (ops : Array Oper) (k t : Nat) : Bool := decide ((ops[k]?).bind (·.dst) = some t)
structure Line (P : Program) (G : Gl) (rec : Rec) (ops : Array Oper) (anc : List Nat) (st : Nat → DS) : Prop where
  good : Good P G rec
  one : ∀ k o, ops[k]? = some o → One P G rec ops anc k o (st k) (st (k + 1))
  init : (st 0).done = []
  ancs : ∀ k o, ops[k]? = some o → ancOk1 anc k o = true
  aparts : ∀ k o, ops[k]? = some o → apartOk1 ops anc k o = true
variable {st : Nat → DS}
theorem op_at {k : Nat} (h : k < ops.size) : ∃ o, ops[k]? = some o := ⟨ops[k], by simp [h]⟩
theorem Line.next1 (Z : Line P G rec ops anc st) {k : Nat} (h : k < ops.size) : (st k).s.next ≤ (st (k + 1)).s.next := by
  obtain ⟨o, ho⟩ := op_at h
  cases Z.one k o ho with
  | off _ _ h1 _ => rw [h1]; exact Nat.le_refl _
  | val _ _ _ _ _ h1 _ => rw [h1]; exact Nat.le_refl _
  | heap v t rem nms _ _ H =>
    obtain ⟨l, K⟩ := stepOp_keeps Z.good H.run
    rw [H.next]
    exact K.le
theorem Line.next (Z : Line P G rec ops anc st) {i : Nat} : ∀ j, i ≤ j → j ≤ ops.size → (st i).s.next ≤ (st j).s.next
  | 0, h1, _ => by rw [Nat.le_zero.1 h1]; exact Nat.le_refl _
  | j + 1, h1, h2 => by
    by_cases hi : i = j + 1
    · rw [hi]; exact Nat.le_refl _
    · exact Nat.le_trans (Line.next Z (i := i) j (by omega) (by omega)) (Z.next1 (by omega))
theorem Line.log (Z : Line P G rec ops anc st) {i : Nat} : ∀ j, i ≤ j → j ≤ ops.size → ∃ X, (st j).s.log = X ++ (st i).s.log
  | 0, h1, _ => by rw [Nat.le_zero.1 h1]; exact ⟨[], rfl⟩
  | j + 1, h1, h2 => by
    by_cases hi : i = j + 1
    · rw [hi]; exact ⟨[], rfl⟩
    · obtain ⟨X, hX⟩ := Line.log Z (i := i) j (by omega) (by omega)
      obtain ⟨o, ho⟩ := op_at (ops := ops) (k := j) (by omega)
      cases Z.one j o ho with
      | off _ _ h1 _ => rw [h1]; exact ⟨X, hX⟩
      | val _ _ _ _ _ h1 _ => rw [h1]; exact ⟨X, hX⟩
      | heap v t rem nms _ _ H => exact ⟨t.log ++ X, by rw [H.log, hX, List.append_assoc]⟩
theorem Line.done (Z : Line P G rec ops anc st) : ∀ k, k ≤ ops.size → ∀ x ∈ (st k).done, x.k < k ∧ x.nms = nmsAt st x.k ∧ ∀ b ∈ x.nms, b < (st k).s.next ∧ b ≤ lim
  | 0, _, x, hx => by rw [Z.init] at hx; cases hx
  | k + 1, hk, x, hx => by
    obtain ⟨o, ho⟩ := op_at (ops := ops) (k := k) (by omega)
    have old : x ∈ (st k).done → x.k < k + 1 ∧ x.nms = nmsAt st x.k ∧ ∀ b ∈ x.nms, b < (st (k + 1)).s.next ∧ b ≤ lim := by
      intro hx
      obtain ⟨h1, h2, h3⟩ := Z.done k (by omega) x hx
      exact ⟨by omega, h2, fun b hb => ⟨Nat.lt_of_lt_of_le (h3 b hb).1 (Z.next1 (by omega)), (h3 b hb).2⟩⟩
    cases Z.one k o ho with
    | off _ _ _ h1 => rw [h1] at hx; exact old hx
    | val _ _ _ _ _ _ h1 => rw [h1] at hx; exact old hx
    | heap v t rem nms _ _ H =>
      have hd := H.done
      rw [hd] at hx
      rcases List.mem_cons.1 hx with rfl | hx
      · refine ⟨Nat.lt_succ_self k, by simp [nmsAt, hd], fun b hb => ?_⟩
        have hle : (st k).s.next ≤ t.next := by rw [← H.next]; exact Z.next1 (by omega)
        have hroom := H.room
        rw [H.next]
        rcases (H.names b).1 hb with h | h
        · omega
        · rcases H.low b h with h | h
          · omega
          · omega
      · exact old hx
theorem Line.quiet (Z : Line P G rec ops anc st) {k : Nat} (hk : k < ops.size) (h : (st (k + 1)).done = (st k).done) : nmsAt st k = [] := by
  unfold nmsAt
  rw [h]
  split
  · rename_i x r hx
    have := (Z.done k (by omega) x (by rw [hx]; simp)).1
    rw [if_neg (by omega)]
  · rfl
theorem Heaped.nms_eq {k : Nat} {o : Oper} {v : Value} {t : HS} {rem nms : List Nat} (H : Heaped P G rec anc k o (st k) (st (k + 1)) v t rem nms) : nmsAt st k = nms := by
  unfold nmsAt
  rw [H.done]
  simp
theorem Line.in_done (Z : Line P G rec ops anc st) {k : Nat} {o : Oper} {v : Value} {t : HS} {rem nms : List Nat} (H : Heaped P G rec anc k o (st k) (st (k + 1)) v t rem nms) : ∀ m, k < m → m ≤ ops.size → ⟨k, nms⟩ ∈ (st m).done
  | 0, h1, _ => by omega
  | m + 1, h1, h2 => by
    by_cases hm : m = k
    · subst hm
      rw [H.done]
      simp
    · have := Z.in_done H m (by omega) (by omega)
      obtain ⟨o', ho⟩ := op_at (ops := ops) (k := m) (by omega)
      cases Z.one m o' ho with
      | off _ _ _ h1 => rw [h1]; exact this
      | val _ _ _ _ _ _ h1 => rw [h1]; exact this
      | heap v t rem nms _ _ H' => rw [H'.done]; exact List.mem_cons_of_mem _ this
/-- an operation that has names has looked at the heap -/
theorem Line.named (Z : Line P G rec ops anc st) {k b : Nat} (hk : k < ops.size) (h : NB st k b = true) : ∃ o v t rem nms, Heaped P G rec anc k o (st k) (st (k + 1)) v t rem nms ∧ b ∈ nms := by
  obtain ⟨o, ho⟩ := op_at hk
  have hb : b ∈ nmsAt st k := by simpa [NB] using h
  cases Z.one k o ho with
  | off _ _ _ h1 => rw [Z.quiet hk h1] at hb; cases hb
  | val _ _ _ _ _ _ h1 => rw [Z.quiet hk h1] at hb; cases hb
  | heap v t rem nms _ _ H => rw [H.nms_eq] at hb; exact ⟨o, v, t, rem, nms, H, hb⟩
theorem Line.heap (Z : Line P G rec ops anc st) (b : Nat) : ∀ k, k ≤ ops.size → (st k).s.at b = mix (NB st) (fun k => (st (k + 1)).s.at) (st 0).s.at (fun _ => true) k b
  | 0, _ => rfl
  | k + 1, hk => by
    obtain ⟨o, ho⟩ := op_at (ops := ops) (k := k) (by omega)
    simp only [mix, Bool.true_and]
    cases hb : NB st k b
    · simp only [Bool.false_eq_true, if_false]
      rw [← Z.heap b k (by omega)]
      have hb : b ∉ nmsAt st k := by simpa [NB] using hb
      cases Z.one k o ho with
      | off _ _ h1 _ => rw [h1]
      | val _ _ _ _ _ h1 _ => rw [h1]
      | heap v t rem nms _ _ H => rw [H.nms_eq] at hb; exact H.keep b hb
    · simp
theorem One.put {k : Nat} {o : Oper} {d d' : DS} (h : One P G rec ops anc k o d d') : ∃ v, d.f.putO o.dst v = some d'.f := by
  cases h with
  | off _ h1 _ _ => exact ⟨_, h1⟩
  | val _ _ _ _ h1 _ _ => exact ⟨_, h1⟩
  | heap v t rem nms _ _ H => exact ⟨_, H.put⟩
theorem Line.tmps (Z : Line P G rec ops anc st) (b : Nat) : ∀ k, k ≤ ops.size → (st k).f.get b = mix (TB ops) (fun k => (st (k + 1)).f.get) (st 0).f.get (fun _ => true) k b
  | 0, _ => rfl
  | k + 1, hk => by
    obtain ⟨o, ho⟩ := op_at (ops := ops) (k := k) (by omega)
    simp only [mix, Bool.true_and]
    cases hb : TB ops k b
    · simp only [Bool.false_eq_true, if_false]
      rw [← Z.tmps b k (by omega)]
      obtain ⟨v, hp⟩ := (Z.one k o ho).put
      have := (AF.putO_spec hp).2.2 b
      rw [this, if_neg]
      simpa [TB, ho] using hb
    · simp
theorem Line.frame (Z : Line P G rec ops anc st) : ∀ k, k ≤ ops.size → (st k).f.size = (st 0).f.size ∧ (st k).f.defers = (st 0).f.defers
  | 0, _ => ⟨rfl, rfl⟩
  | k + 1, hk => by
    obtain ⟨o, ho⟩ := op_at (ops := ops) (k := k) (by omega)
    obtain ⟨v, hp⟩ := (Z.one k o ho).put
    obtain ⟨h1, h2, _⟩ := AF.putO_spec hp
    obtain ⟨h3, h4⟩ := Z.frame k (by omega)
    exact ⟨h1.trans h3, h2.trans h4⟩
theorem Line.apart2 (Z : Line P G rec ops anc st) {i j : Nat} {x y : Oper} (hi : ops[i]? = some x) (hj : ops[j]? = some y) (hij : i < j) :
    (∀ d, x.dst = some d → y.dst ≠ some d) ∧ (isAnc anc i j = false → (∀ d, x.dst = some d → d ∉ y.looksAt ops) ∧ (∀ d, y.dst = some d → d ∉ x.looksAt ops)) := by
  have h := Z.aparts j y hj
  unfold apartOk1 at h
  rw [List.all_eq_true] at h
  have := h i (List.mem_range.2 hij)
  rw [hi] at this
  simp only [Bool.and_eq_true, Bool.or_eq_true] at this
  refine ⟨fun d hd => ?_, fun ha => ?_⟩
  · have h1 := this.1
    rw [hd] at h1
    simpa using h1
  · rcases this.2 with h1 | h1
    · rw [ha] at h1; cases h1
    · obtain ⟨k1, k2, k3⟩ := Oper.apart_spec h1
      exact ⟨k1, k3⟩
end
end Go.Proofs.YtcnclcfglfgjlaaGreatDoor.Cx
