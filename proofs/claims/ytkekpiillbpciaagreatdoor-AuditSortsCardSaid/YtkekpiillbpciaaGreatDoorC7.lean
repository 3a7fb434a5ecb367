/- CxDrawn2; CxDrawn3; CxRun; CxWhole; CxClosed: merged into one text: lemmas for the walk of the law. No condition. -/
import Derived.Test.YtkekpiillbpciaaGreatDoorC6
import Derived.Scope
/- A machine that runs a program's code on written inputs by computation alone, part 20: a region that draws its order does what its text's order does. No condition. -/
namespace Go.Proofs.YtkekpiillbpciaaGreatDoor.Cx
open Go

section
variable {P : Program} {G : Gl} {rec : Rec} {ops : Array Oper} {anc : List Nat}
theorem drawnGo_states : ∀ (l : List Oper) (k : Nat) (d e : DS), drawnGo P G rec ops anc l k d = some e →
    ∃ st : Nat → DS, st 0 = d ∧ st l.length = e ∧ ∀ i o, l[i]? = some o → drawn1 P G rec ops anc (k + i) o (st i) = some (st (i + 1))
  | [], k, d, e, h => by
    cases h
    exact ⟨fun _ => d, rfl, rfl, fun i o ho => by simp at ho⟩
  | o :: l, k, d, e, h => by
    unfold drawnGo at h
    split at h
    · rename_i d1 h1
      obtain ⟨st, s0, sn, hs⟩ := drawnGo_states l (k + 1) d1 e h
      refine ⟨fun i => match i with | 0 => d | i + 1 => st i, rfl, sn, fun i o' ho => ?_⟩
      cases i with
      | zero =>
        simp only [List.getElem?_cons_zero, Option.some.injEq] at ho
        subst ho
        show drawn1 P G rec ops anc k o d = some (st 0)
        rw [s0]
        exact h1
      | succ i =>
        have := hs i o' (by simpa using ho)
        rw [show k + (i + 1) = k + 1 + i by omega]
        exact this
    · cases h
theorem statOk_spec : ∀ (l : List Oper) (k : Nat), statOk ops anc l k = true → ∀ i o, l[i]? = some o → ancOk1 anc (k + i) o = true ∧ apartOk1 ops anc (k + i) o = true
  | [], k, _, i, o, ho => by simp at ho
  | x :: l, k, h, i, o, ho => by
    simp only [statOk, Bool.and_eq_true] at h
    cases i with
    | zero =>
      simp only [List.getElem?_cons_zero, Option.some.injEq] at ho
      subst ho
      exact ⟨h.1, h.2.1⟩
    | succ i =>
      have := statOk_spec l (k + 1) h.2.2 i o (by simpa using ho)
      rw [show k + (i + 1) = k + 1 + i by omega]
      exact this

/-- the names that an operation made or touched, and the temporary that it fills -/
def nmsAt (st : Nat → DS) (k : Nat) : List Nat := match (st (k + 1)).done with
  | x :: _ => if x.k = k then x.nms else []
  | [] => []
def NB (st : Nat → DS) (k b : Nat) : Bool := decide (b ∈ nmsAt st k)
def TB (ops : Array Oper) (k t : Nat) : Bool := decide ((ops[k]?).bind (·.dst) = some t)
structure Line (P : Program) (G : Gl) (rec : Rec) (ops : Array Oper) (anc : List Nat) (st : Nat → DS) : Prop where
  good : Good P G rec
  one : ∀ k o, ops[k]? = some o → One P G rec ops anc k o (st k) (st (k + 1))
  init : (st 0).done = []
  ancs : ∀ k o, ops[k]? = some o → ancOk1 anc k o = true
  aparts : ∀ k o, ops[k]? = some o → apartOk1 ops anc k o = true
variable {st : Nat → DS}
theorem op_at {k : Nat} (h : k < ops.size) : ∃ o, ops[k]? = some o := ⟨ops[k], by simp [h]⟩
theorem Line.next1 (Z : Line P G rec ops anc st) {k : Nat} (h : k < ops.size) : (st k).s.next ≤ (st (k + 1)).s.next := by
  obtain ⟨o, ho⟩ := op_at h
  cases Z.one k o ho with
  | off _ _ h1 _ => rw [h1]; exact Nat.le_refl _
  | val _ _ _ _ _ h1 _ => rw [h1]; exact Nat.le_refl _
  | heap v t rem nms _ _ H =>
    obtain ⟨hp, rds, hrun, _⟩ := H.ran
    obtain ⟨l, K⟩ := stepOp_keeps Z.good hrun
    rw [H.next]
    exact K.le
theorem Line.next (Z : Line P G rec ops anc st) {i : Nat} : ∀ j, i ≤ j → j ≤ ops.size → (st i).s.next ≤ (st j).s.next
  | 0, h1, _ => by rw [Nat.le_zero.1 h1]; exact Nat.le_refl _
  | j + 1, h1, h2 => by
    by_cases hi : i = j + 1
    · rw [hi]; exact Nat.le_refl _
    · exact Nat.le_trans (Line.next Z (i := i) j (by omega) (by omega)) (Z.next1 (by omega))
theorem Line.log (Z : Line P G rec ops anc st) {i : Nat} : ∀ j, i ≤ j → j ≤ ops.size → ∃ X, (st j).s.log = X ++ (st i).s.log
  | 0, h1, _ => by rw [Nat.le_zero.1 h1]; exact ⟨[], rfl⟩
  | j + 1, h1, h2 => by
    by_cases hi : i = j + 1
    · rw [hi]; exact ⟨[], rfl⟩
    · obtain ⟨X, hX⟩ := Line.log Z (i := i) j (by omega) (by omega)
      obtain ⟨o, ho⟩ := op_at (ops := ops) (k := j) (by omega)
      cases Z.one j o ho with
      | off _ _ h1 _ => rw [h1]; exact ⟨X, hX⟩
      | val _ _ _ _ _ h1 _ => rw [h1]; exact ⟨X, hX⟩
      | heap v t rem nms _ _ H => exact ⟨t.log ++ X, by rw [H.log, hX, List.append_assoc]⟩
theorem Line.done (Z : Line P G rec ops anc st) : ∀ k, k ≤ ops.size → ∀ x ∈ (st k).done, x.k < k ∧ x.nms = nmsAt st x.k ∧ ∀ b ∈ x.nms, b < (st k).s.next ∧ b ≤ lim
  | 0, _, x, hx => by rw [Z.init] at hx; cases hx
  | k + 1, hk, x, hx => by
    obtain ⟨o, ho⟩ := op_at (ops := ops) (k := k) (by omega)
    have old : x ∈ (st k).done → x.k < k + 1 ∧ x.nms = nmsAt st x.k ∧ ∀ b ∈ x.nms, b < (st (k + 1)).s.next ∧ b ≤ lim := by
      intro hx
      obtain ⟨h1, h2, h3⟩ := Z.done k (by omega) x hx
      exact ⟨by omega, h2, fun b hb => ⟨Nat.lt_of_lt_of_le (h3 b hb).1 (Z.next1 (by omega)), (h3 b hb).2⟩⟩
    cases Z.one k o ho with
    | off _ _ _ h1 => rw [h1] at hx; exact old hx
    | val _ _ _ _ _ _ h1 => rw [h1] at hx; exact old hx
    | heap v t rem nms _ _ H =>
      obtain ⟨hp, rds, _, hd, _⟩ := H.ran
      rw [hd] at hx
      rcases List.mem_cons.1 hx with rfl | hx
      · refine ⟨Nat.lt_succ_self k, by simp [nmsAt, hd], fun b hb => ?_⟩
        have hle : (st k).s.next ≤ t.next := by rw [← H.next]; exact Z.next1 (by omega)
        have hroom := H.room
        rw [H.next]
        rcases (H.names b).1 hb with h | h
        · omega
        · rcases H.low b h with h | h
          · omega
          · omega
      · exact old hx
theorem Line.quiet (Z : Line P G rec ops anc st) {k : Nat} (hk : k < ops.size) (h : (st (k + 1)).done = (st k).done) : nmsAt st k = [] := by
  unfold nmsAt
  rw [h]
  split
  · rename_i x r hx
    have := (Z.done k (by omega) x (by rw [hx]; simp)).1
    rw [if_neg (by omega)]
  · rfl
theorem Heaped.nms_eq {k : Nat} {o : Oper} {v : Value} {t : HS} {rem nms : List Nat} (H : Heaped P G rec anc k o (st k) (st (k + 1)) v t rem nms) : nmsAt st k = nms := by
  obtain ⟨hp, rds, _, hd, _⟩ := H.ran
  unfold nmsAt
  rw [hd]
  simp
theorem Line.in_done (Z : Line P G rec ops anc st) {k : Nat} {x : DRec} (H : (st (k + 1)).done = x :: (st k).done) : ∀ m, k < m → m ≤ ops.size → x ∈ (st m).done
  | 0, h1, _ => by omega
  | m + 1, h1, h2 => by
    by_cases hm : m = k
    · subst hm
      rw [H]
      simp
    · have := Line.in_done Z (k := k) H m (by omega) (by omega)
      obtain ⟨o', ho⟩ := op_at (ops := ops) (k := m) (by omega)
      cases Z.one m o' ho with
      | off _ _ _ h1 => rw [h1]; exact this
      | val _ _ _ _ _ _ h1 => rw [h1]; exact this
      | heap v t rem nms _ _ H' =>
        obtain ⟨hp, rds, _, hd, _⟩ := H'.ran
        rw [hd]
        exact List.mem_cons_of_mem _ this
/-- an operation that has names has looked at the heap -/
theorem Line.named (Z : Line P G rec ops anc st) {k b : Nat} (hk : k < ops.size) (h : NB st k b = true) : ∃ o v t rem nms, Heaped P G rec anc k o (st k) (st (k + 1)) v t rem nms ∧ b ∈ nms := by
  obtain ⟨o, ho⟩ := op_at hk
  have hb : b ∈ nmsAt st k := by simpa [NB] using h
  cases Z.one k o ho with
  | off _ _ _ h1 => rw [Z.quiet hk h1] at hb; cases hb
  | val _ _ _ _ _ _ h1 => rw [Z.quiet hk h1] at hb; cases hb
  | heap v t rem nms _ _ H => rw [H.nms_eq] at hb; exact ⟨o, v, t, rem, nms, H, hb⟩
theorem Line.heap (Z : Line P G rec ops anc st) (b : Nat) : ∀ k, k ≤ ops.size → (st k).s.at b = mix (NB st) (fun k => (st (k + 1)).s.at) (st 0).s.at (fun _ => true) k b
  | 0, _ => rfl
  | k + 1, hk => by
    obtain ⟨o, ho⟩ := op_at (ops := ops) (k := k) (by omega)
    simp only [mix, Bool.true_and]
    cases hb : NB st k b
    · simp only [Bool.false_eq_true, if_false]
      rw [← Z.heap b k (by omega)]
      have hb : b ∉ nmsAt st k := by simpa [NB] using hb
      cases Z.one k o ho with
      | off _ _ h1 _ => rw [h1]
      | val _ _ _ _ _ h1 _ => rw [h1]
      | heap v t rem nms _ _ H => rw [H.nms_eq] at hb; exact H.keep b hb
    · simp
theorem One.put {k : Nat} {o : Oper} {d d' : DS} (h : One P G rec ops anc k o d d') : ∃ v, d.f.putO o.dst v = some d'.f := by
  cases h with
  | off _ h1 _ _ => exact ⟨_, h1⟩
  | val _ _ _ _ h1 _ _ => exact ⟨_, h1⟩
  | heap v t rem nms _ _ H => exact ⟨_, H.put⟩
theorem Line.tmps (Z : Line P G rec ops anc st) (b : Nat) : ∀ k, k ≤ ops.size → (st k).f.get b = mix (TB ops) (fun k => (st (k + 1)).f.get) (st 0).f.get (fun _ => true) k b
  | 0, _ => rfl
  | k + 1, hk => by
    obtain ⟨o, ho⟩ := op_at (ops := ops) (k := k) (by omega)
    simp only [mix, Bool.true_and]
    cases hb : TB ops k b
    · simp only [Bool.false_eq_true, if_false]
      rw [← Z.tmps b k (by omega)]
      obtain ⟨v, hp⟩ := (Z.one k o ho).put
      have := (AF.putO_spec hp).2.2 b
      rw [this, if_neg]
      simpa [TB, ho] using hb
    · simp
theorem Line.frame (Z : Line P G rec ops anc st) : ∀ k, k ≤ ops.size → (st k).f.size = (st 0).f.size ∧ (st k).f.defers = (st 0).f.defers
  | 0, _ => ⟨rfl, rfl⟩
  | k + 1, hk => by
    obtain ⟨o, ho⟩ := op_at (ops := ops) (k := k) (by omega)
    obtain ⟨v, hp⟩ := (Z.one k o ho).put
    obtain ⟨h1, h2, _⟩ := AF.putO_spec hp
    obtain ⟨h3, h4⟩ := Z.frame k (by omega)
    exact ⟨h1.trans h3, h2.trans h4⟩
theorem Line.apart2 (Z : Line P G rec ops anc st) {i j : Nat} {x y : Oper} (hi : ops[i]? = some x) (hj : ops[j]? = some y) (hij : i < j) :
    (∀ d, x.dst = some d → y.dst ≠ some d) ∧ (isAnc anc i j = false → (∀ d, x.dst = some d → d ∉ y.looksAt ops) ∧ (∀ d, y.dst = some d → d ∉ x.looksAt ops)) := by
  have h := Z.aparts j y hj
  unfold apartOk1 at h
  rw [List.all_eq_true] at h
  have := h i (List.mem_range.2 hij)
  rw [hi] at this
  simp only [Bool.and_eq_true, Bool.or_eq_true] at this
  refine ⟨fun d hd => ?_, fun ha => ?_⟩
  · have h1 := this.1
    rw [hd] at h1
    simpa using h1
  · rcases this.2 with h1 | h1
    · rw [ha] at h1; cases h1
    · obtain ⟨k1, k2, k3⟩ := Oper.apart_spec h1
      exact ⟨k1, k3⟩
end
end Go.Proofs.YtkekpiillbpciaaGreatDoor.Cx

/- A machine that runs a program's code on written inputs by computation alone, part 21: a region that draws its order does what its text's order does, in every order. No condition. -/
namespace Go.Proofs.YtkekpiillbpciaaGreatDoor.Cx
open Go

section
variable {P : Program} {G : Gl} {rec : Rec} {ops : Array Oper} {anc : List Nat} {st : Nat → DS}
abbrev mixH (ops : Array Oper) (st : Nat → DS) (D : Nat → Bool) : Hp := mix (NB st) (fun k => (st (k + 1)).s.at) (st 0).s.at D ops.size
abbrev mixT (ops : Array Oper) (st : Nat → DS) (D : Nat → Bool) : Nat → Value := mix (TB ops) (fun k => (st (k + 1)).f.get) (st 0).f.get D ops.size
/-- where a run of the region begins -/
structure Root (G : Gl) (ops : Array Oper) (st : Nat → DS) (E0 : Em) (w0 : World) (L : List Nat) : Prop where
  hr : HR E0 (st 0).s.at w0
  gl : GL E0 G
  fresh : Fresh E0 (st 0).s.next (st ops.size).s.next
  log : (st ops.size).s.log = L ++ (st 0).s.log
/-- what holds when the operations of D have been carried out -/
structure Inv (ops : Array Oper) (st : Nat → DS) (E0 : Em) (w0 : World) (L : List Nat) (D : Nat → Bool) (E : Em) (a : Act) (w : World) : Prop where
  tx : Tx E0 (st 0).s.at w0 (st 0).s.next E (mixH ops st D) w (st ops.size).s.next L
  size : a.tmps.size = (st 0).f.size
  get : ∀ t, VR E (mixT ops st D t) (a.tmps.getD t undef)
  defers : DR E (st 0).f.defers a.defers
  fresh : ∀ k, k < ops.size → D k = false → Fresh E (st k).s.next (st (k + 1)).s.next
/-- with an operation all that it has to wait for has been carried out -/
structure Closed (anc : List Nat) (D : Nat → Bool) (k : Nat) : Prop where
  out : D k = false
  mine : ∀ j, j < k → isAnc anc j k = true → D j = true
  all : ∀ i, D i = true → k < i → isAnc anc k i = false
variable {E0 E : Em} {w0 w : World} {L : List Nat} {D D' : Nat → Bool} {a : Act} {k : Nat} {o : Oper}

/-- the temporaries that an operation reads -/
theorem read_tmps (Z : Line P G rec ops anc st) (ho : ops[k]? = some o) (C : Closed anc D k) {t : Nat} (ht : t ∈ o.looksAt ops) : mixT ops st D t = (st k).f.get t := by
  have hk : k < ops.size := (Array.getElem?_eq_some_iff.1 ho).1
  rw [Z.tmps t k (by omega)]
  have h1 : mix (TB ops) (fun k => (st (k + 1)).f.get) (st 0).f.get D ops.size t = mix (TB ops) (fun k => (st (k + 1)).f.get) (st 0).f.get D k t := by
    refine mix_high ops.size (by omega) fun i hi hin hDi => ?_
    obtain ⟨x, hx⟩ := op_at hin
    have hne : i ≠ k := fun h => by subst h; rw [C.out] at hDi; cases hDi
    obtain ⟨_, h2⟩ := Z.apart2 ho hx (by omega)
    obtain ⟨_, h3⟩ := h2 (C.all i hDi (by omega))
    unfold TB
    rw [hx]
    simp only [Option.bind_some, decide_eq_false_iff_not]
    intro hd
    exact h3 t hd ht
  rw [show mixT ops st D t = _ from h1]
  refine mix_low k fun i hi hb => ?_
  obtain ⟨x, hx⟩ := op_at (ops := ops) (k := i) (by omega)
  unfold TB at hb
  rw [hx] at hb
  simp only [Option.bind_some, decide_eq_true_eq] at hb
  cases ha : isAnc anc i k with
  | true => exact C.mine i hi ha
  | false =>
    obtain ⟨_, h2⟩ := Z.apart2 hx ho hi
    exact absurd ht ((h2 ha).1 t hb)
/-- the heap on which an operation has been run is part of the heap that is there -/
theorem read_heap (Z : Line P G rec ops anc st) (I : Root G ops st E0 w0 L) (C : Closed anc D k) {v : Value} {t : HS} {rem nms : List Nat} (hk : k < ops.size) (H : Heaped P G rec anc k o (st k) (st (k + 1)) v t rem nms)
    {rds : Option (List Nat)} (hdn : (st (k + 1)).done = ⟨k, nms, rds⟩ :: (st k).done) {b : Nat} {ob : AObj} (hb : (st k).s.at b = some ob) (hr : b ∉ rem) (hrd : ∀ l, rds = some l → b ∈ l) : mixH ops st D b = some ob := by
  rw [← hb, Z.heap b k (by omega)]
  have h1 : mix (NB st) (fun k => (st (k + 1)).s.at) (st 0).s.at D ops.size b = mix (NB st) (fun k => (st (k + 1)).s.at) (st 0).s.at D k b := by
    refine mix_high ops.size (by omega) fun i hi hin hDi => ?_
    have hne : i ≠ k := fun h => by subst h; rw [C.out] at hDi; cases hDi
    cases hx : NB st i b with
    | false => rfl
    | true =>
      exfalso
      obtain ⟨o', v', t', rem', nms', H', hb'⟩ := Z.named hin hx
      have hin' := Z.in_done hdn i (by omega) (by omega)
      have hnew : (st i).s.next ≤ b ∧ b < t'.next := by
        rcases (H'.names b).1 hb' with h | h
        · exact h
        · rcases H'.free _ hin' (C.all i hDi (by omega)) with h1 | ⟨l, hl, h1⟩
          · exact h1 b h
          · rcases h1 b h with h2 | h2
            · exact h2
            · exact absurd (hrd l hl) h2
      -- no name so high lies in the heap before
      have hlow : (st k).s.at b = (st 0).s.at b := by
        rw [Z.heap b k (by omega)]
        refine mix_high (k := 0) k (Nat.zero_le k) fun j _ hj _ => ?_
        cases hy : NB st j b with
        | false => rfl
        | true =>
          exfalso
          obtain ⟨o2, v2, t2, rem2, nms2, H2, hb2⟩ := Z.named (by omega) hy
          obtain ⟨hp2, rds2, _, hd2, _⟩ := H2.ran
          have h3 := (Z.done (j + 1) (by omega) ⟨j, nms2, rds2⟩ (by rw [hd2]; simp)).2.2 b hb2
          have h4 := Z.next (i := j + 1) i (by omega) (by omega)
          omega
      rw [hlow] at hb
      obtain ⟨e, he, _⟩ := I.hr.here b ob hb
      have h5 := Z.next (i := 0) i (by omega) (by omega)
      have h6 := Z.next (i := i + 1) ops.size (by omega) (by omega)
      rw [I.fresh b (by omega) (by have := H'.next; omega)] at he
      cases he
  rw [show mixH ops st D b = _ from h1]
  refine mix_low k fun i hi hx => ?_
  cases ha : isAnc anc i k with
  | true => exact C.mine i hi ha
  | false =>
    exfalso
    obtain ⟨o', v', t', rem', nms', H', hb'⟩ := Z.named (by omega) hx
    obtain ⟨hp', rds', _, hd', _⟩ := H'.ran
    have hin' := Z.in_done hd' k hi (by omega)
    refine hr ?_
    rw [H.rem_eq, List.mem_flatMap]
    exact ⟨_, List.mem_filter.2 ⟨hin', by simp [ha]⟩, hb'⟩
/-- what an operation has written stays -/
theorem write_heap (Z : Line P G rec ops anc st) (C : Closed anc D k) (hD' : D' k = true) (hDD : ∀ i, i ≠ k → D' i = D i) {v : Value} {t : HS} {rem nms : List Nat} (hk : k < ops.size) (H : Heaped P G rec anc k o (st k) (st (k + 1)) v t rem nms) :
    patch nms t.at (mixH ops st D) = mixH ops st D' := by
  funext b
  unfold patch
  by_cases hb : b ∈ nms
  · rw [if_pos hb, ← H.here b hb]
    refine (mix_in (N := NB st) (R := fun k => (st (k + 1)).s.at) (h := (st 0).s.at) hDD hD' (by unfold NB; rw [H.nms_eq]; simpa using hb) ops.size hk fun i hi hin hDi => ?_).symm
    cases hx : NB st i b with
    | false => rfl
    | true =>
      exfalso
      obtain ⟨o', v', t', rem', nms', H', hb'⟩ := Z.named hin hx
      obtain ⟨hp0, rds0, _, hd0, _⟩ := H.ran
      have hin' := Z.in_done hd0 i hi (by omega)
      have hna := C.all i hDi hi
      have hlt := (Z.done i (by omega) _ hin').2.2 b hb
      have hrem : b ∈ rem' := by
        rw [H'.rem_eq, List.mem_flatMap]
        exact ⟨_, List.mem_filter.2 ⟨hin', by simp [hna]⟩, hb⟩
      rcases (H'.names b).1 hb' with h | h
      · omega
      · rcases H'.low b h with h | h
        · omega
        · exact h.2 hrem
  · rw [if_neg hb]
    exact (mix_out hDD (by unfold NB; rw [H.nms_eq]; simpa using hb) ops.size).symm
theorem quiet_heap (hDD : ∀ i, i ≠ k → D' i = D i) (hq : nmsAt st k = []) : mixH ops st D = mixH ops st D' := by
  funext b
  exact (mix_out hDD (by unfold NB; rw [hq]; rfl) ops.size).symm
theorem write_tmps (Z : Line P G rec ops anc st) (ho : ops[k]? = some o) (hD' : D' k = true) (hDD : ∀ i, i ≠ k → D' i = D i) {v v' : Value} (hp : (st k).f.putO o.dst v = some (st (k + 1)).f) (hs : a.tmps.size = (st 0).f.size)
    (hv : VR E v v') (h : ∀ t, VR E (mixT ops st D t) (a.tmps.getD t undef)) (t : Nat) : VR E (mixT ops st D' t) ((a.put o.dst v').tmps.getD t undef) := by
  have hk : k < ops.size := (Array.getElem?_eq_some_iff.1 ho).1
  rw [act_put_get a o.dst v' t fun d' hd => by rw [hs, ← (Z.frame k (by omega)).1]; exact putO_lt hp d' hd]
  by_cases ht : o.dst = some t
  · rw [if_pos ht]
    have : mixT ops st D' t = (st (k + 1)).f.get t := by
      refine mix_in hDD hD' (by unfold TB; rw [ho]; simpa using ht) ops.size hk fun i hi hin _ => ?_
      obtain ⟨x, hx⟩ := op_at hin
      unfold TB
      rw [hx]
      simp only [Option.bind_some, decide_eq_false_iff_not]
      exact (Z.apart2 ho hx hi).1 t ht
    rw [this, (AF.putO_spec hp).2.2 t, if_pos ht]
    exact hv
  · rw [if_neg ht]
    have : mixT ops st D' t = mixT ops st D t := mix_out hDD (by unfold TB; rw [ho]; simpa using ht) ops.size
    rw [this]
    exact h t
theorem inv_step (Z : Line P G rec ops anc st) (I : Root G ops st E0 w0 L) (ho : ops[k]? = some o) (C : Closed anc D k) (hD' : D' k = true) (hDD : ∀ i, i ≠ k → D' i = D i) (J : Inv ops st E0 w0 L D E a w)
    {K : Act → World → Prop} {Q : Exit → Act → World → Prop} (hK : ∀ E' a' w', Inv ops st E0 w0 L D' E' a' w' → K a' w') : wpOp P ops Q k K a w := by
  have hk : k < ops.size := (Array.getElem?_eq_some_iff.1 ho).1
  have read : ∀ t, t ∈ o.looksAt ops → VR E ((st k).f.get t) (a.tmps.getD t undef) := fun t ht => by rw [← read_tmps Z ho C ht]; exact J.get t
  have hw : Region.wanted o (yielded ops a.tmps) = wantedA ops (st k).f o := wantedA_eq fun g wt t hg ht => read t (by simp [Oper.looksAt, hg, ht])
  have hρ : o.op.operands.all (okOp G) = true → ∀ z ∈ o.op.operands, VR E (ev (st k).f z) (a.eval z) := by
    intro hok z hz
    have hzok := Array.all_eq_true_iff_forall_mem.1 hok z hz
    cases z with
    | tmp t => exact read t (List.mem_append_left _ (List.mem_filterMap.2 ⟨.tmp t, by simpa using hz, rfl⟩))
    | const v => exact bare_self v hzok
    | global g =>
      obtain ⟨e, he, hb⟩ := (I.gl.ext J.tx.ext) g (by simpa [okOp] using hzok)
      have := VR.ptr g 0 e he
      rw [hb] at this
      exact this
    | func g => exact VR.func' trivial trivial
  have same : ∀ v v', (st k).f.putO o.dst v = some (st (k + 1)).f → (st (k + 1)).done = (st k).done → VR E v v' → Inv ops st E0 w0 L D' E (a.put o.dst v') w := by
    intro v v' hp hd hv
    refine ⟨?_, by rw [act_put_size]; exact J.size, write_tmps Z ho hD' hDD hp J.size hv J.get, by rw [act_put_defers]; exact J.defers, fun i hi hDi => J.fresh i hi ?_⟩
    · rw [← quiet_heap hDD (Z.quiet hk hd)]
      exact J.tx
    · by_cases hik : i = k
      · subst hik; exact C.out
      · rw [← hDD i hik]; exact hDi
  unfold wpOp
  simp only [ho]
  rw [hw]
  cases Z.one k o ho with
  | off h1 h2 _ h3 =>
    rw [h1]
    simp only [Bool.false_eq_true, if_false]
    exact hK E _ _ (same _ _ h2 h3 VR.undef)
  | val v h1 h2 h3 h4 _ h5 =>
    rw [h1]
    simp only [if_true]
    refine .inl ?_
    obtain ⟨v', k1, k2⟩ := heapless_run h3 (hρ h2)
    unfold Oper.wp
    rw [k2 w]
    exact hK E _ _ (same _ _ h4 h5 k1)
  | heap v t rem nms h1 h2 H =>
    rw [h1]
    simp only [if_true]
    refine .inl ?_
    obtain ⟨hp, rds, hrun, hdn, hsub⟩ := H.ran
    have hsub := hsub fun x hx c hc => ((Z.done k (by omega) x hx).2.2 c hc).2
    have sub : ∀ b ob, (⟨hp, (st k).s.next, []⟩ : HS).at b = some ob → mixH ops st D b = some ob := by
      intro b ob hb
      obtain ⟨h1, h2, h3⟩ := hsub b ob hb
      exact read_heap Z I C hk H hdn h1 h2 h3
    have hfr : Fresh E (st k).s.next t.next := by rw [← H.next]; exact J.fresh k hk C.out
    refine stepOp_wp Z.good hrun (l := t.log) (by simp) (J.tx.hr.sub sub) (hρ h2) (I.gl.ext J.tx.ext) hfr fun E' w' v' T hv => ?_
    have T2 := T.lift J.tx.hr sub hfr (N := nms) H.names
    rw [write_heap Z C hD' hDD hk H] at T2
    have n1 := Z.next (i := 0) k (by omega) (by omega)
    have n2 := Z.next (i := k + 1) ops.size (by omega) (by omega)
    rw [H.next] at n2
    have T3 := J.tx.within T2 n1 n2
    have hlog : ∀ b ∈ t.log ++ L, b ∈ L := by
      intro b hb
      rcases List.mem_append.1 hb with hb | hb
      · obtain ⟨X, hX⟩ := Z.log (i := k + 1) ops.size (by omega) (by omega)
        obtain ⟨Y, hY⟩ := Z.log (i := 0) k (by omega) (by omega)
        have : L = X ++ (t.log ++ Y) := cancel (c := (st 0).s.log) (by rw [← I.log, hX, H.log, hY]; simp)
        rw [this]
        simp [hb]
      · exact hb
    refine hK E' _ _ ⟨T3.weaken hlog, by rw [act_put_size]; exact J.size, write_tmps Z ho hD' hDD H.put J.size hv fun t => (J.get t).ext T.ext, by rw [act_put_defers]; exact J.defers.ext T.ext, fun i hi hDi => ?_⟩
    have hik : i ≠ k := fun h => by subst h; rw [hD'] at hDi; cases hDi
    have hDi' : D i = false := by rw [← hDD i hik]; exact hDi
    intro b hb1 hb2
    cases hx : E' b with
    | none => rfl
    | some e =>
      rcases T.dom b e hx with h3 | h3
      · rw [J.fresh i hi hDi' b hb1 hb2] at h3; cases h3
      · exfalso
        have h3' : (st k).s.next ≤ b ∧ b < (st (k + 1)).s.next := by rw [H.next]; exact h3
        rcases Nat.lt_or_ge i k with hlt | hge
        · have := Z.next (i := i + 1) k (by omega) (by omega)
          omega
        · have := Z.next (i := k + 1) i (by omega) (by omega)
          omega
end
end Go.Proofs.YtkekpiillbpciaaGreatDoor.Cx

/- A machine that runs a program's code on written inputs by computation alone, part 22: all codes; what the machine computes is what a call does. The program's draws must follow the mixed orders. -/
namespace Go.Proofs.YtkekpiillbpciaaGreatDoor.Cx
open Go

section
variable {P : Program} {G : Gl} {rec : Rec} {ops : Array Oper} {anc : List Nat} {st : Nat → DS} {E0 : Em} {w0 : World} {L : List Nat}
theorem ancOk1_spec {k : Nat} {o : Oper} (h : ancOk1 anc k o = true) : (∀ e ∈ o.after, Region.binds .any e = true → e.on < k) ∧
    ∀ j, j < k → isAnc anc j k = true → ∃ e ∈ o.after, Region.binds .any e = true ∧ (e.on = j ∨ (isAnc anc j e.on = true ∧ j < e.on)) := by
  unfold ancOk1 at h
  rw [Bool.and_eq_true] at h
  obtain ⟨h1, h2⟩ := h
  rw [List.all_eq_true] at h1 h2
  refine ⟨fun e he hb => ?_, fun j hj ha => ?_⟩
  · have := h1 e (by simpa using he)
    rw [hb] at this
    simpa [Nat.blt_eq] using this
  · have := h2 j (List.mem_range.2 hj)
    rw [ha] at this
    simp only [Bool.not_true, Bool.false_or] at this
    rw [List.any_eq_true] at this
    obtain ⟨e, he, h3⟩ := this
    rw [Bool.and_eq_true, Bool.or_eq_true, Bool.and_eq_true, Nat.blt_eq] at h3
    refine ⟨e, by simpa using he, h3.1, ?_⟩
    rcases h3.2 with h4 | h4
    · exact .inl (beq_eq h4)
    · exact .inr h4
theorem inv_all {D : Nat → Bool} {E : Em} {a : Act} {w : World} (J : Inv ops st E0 w0 L D E a w) (h : ∀ i, i < ops.size → D i = true) : Inv ops st E0 w0 L (fun _ => true) E a w := by
  have h1 : mixH ops st D = mixH ops st (fun _ => true) := funext fun b => mix_low ops.size fun i hi _ => h i hi
  have h2 : mixT ops st D = mixT ops st (fun _ => true) := funext fun b => mix_low ops.size fun i hi _ => h i hi
  exact ⟨by rw [← h1]; exact J.tx, J.size, by rw [← h2]; exact J.get, J.defers, fun k _ hk => by cases hk⟩
theorem getD_size {listed : Array Bool} {k : Nat} (h : k < listed.size) (b c : Bool) : listed.getD k b = listed.getD k c := by
  simp [Array.getD_eq_getD_getElem?, h]
theorem drawn_wp (Z : Line P G rec ops anc st) (I : Root G ops st E0 w0 L) {Q : Exit → Act → World → Prop} (hQ : ∀ E a w, Inv ops st E0 w0 L (fun _ => true) E a w → Q .normal a w) :
    ∀ (fuel : Nat) (listed : Array Bool) (E : Em) (a : Act) (w : World), listed.size = ops.size → (∀ k j, j < k → listed.getD k false = true → isAnc anc j k = true → listed.getD j false = true) →
      (List.range ops.size).countP (fun i => !listed.getD i false) ≤ fuel → Inv ops st E0 w0 L (fun i => listed.getD i false) E a w → wpAny P .any ops Q fuel listed a w := by
  have allListed : ∀ (listed : Array Bool), listed.size = ops.size → Region.ready .any ops listed = [] → ∀ i, i < ops.size → listed.getD i false = true := by
    intro listed hs hr i
    induction i using Nat.strongRecOn with
    | _ i ih =>
      intro hi
      cases hd : listed.getD i false with
      | true => rfl
      | false =>
        exfalso
        obtain ⟨o, ho⟩ := op_at hi
        have : i ∈ Region.ready .any ops listed := mem_ready.2 ⟨by rw [getD_size (by omega) true false]; exact hd, o, ho, fun e he hb => by
          have := (ancOk1_spec (Z.ancs i o ho)).1 e he hb
          exact ih e.on this (by omega)⟩
        rw [hr] at this
        cases this
  intro fuel
  induction fuel with
  | zero =>
    intro listed E a w hs _ hc J
    have hall : ∀ i, i < ops.size → listed.getD i false = true := by
      intro i hi
      cases hd : listed.getD i false with
      | true => rfl
      | false =>
        exfalso
        have : 0 < (List.range ops.size).countP (fun i => !listed.getD i false) := List.countP_pos_iff.2 ⟨i, List.mem_range.2 hi, by simp only [hd]; rfl⟩
        omega
    refine ⟨?_, hQ E a w (inv_all J hall)⟩
    cases hr : Region.ready .any ops listed with
    | nil => rfl
    | cons i r =>
      exfalso
      have : i ∈ Region.ready .any ops listed := by rw [hr]; simp
      obtain ⟨h1, o, ho, _⟩ := mem_ready.1 this
      have hi : i < ops.size := (Array.getElem?_eq_some_iff.1 ho).1
      rw [getD_size (by omega) true false, hall i hi] at h1
      cases h1
  | succ fuel ih =>
    intro listed E a w hs hcl hc J
    refine ⟨fun hr => hQ E a w (inv_all J (allListed listed hs hr)), fun k hk => ?_⟩
    obtain ⟨h1, o, ho, h2⟩ := mem_ready.1 hk
    have hkn : k < ops.size := (Array.getElem?_eq_some_iff.1 ho).1
    have hDk : listed.getD k false = false := by rw [getD_size (by omega) false true]; exact h1
    obtain ⟨_, hanc⟩ := ancOk1_spec (Z.ancs k o ho)
    have mine : ∀ j, j < k → isAnc anc j k = true → listed.getD j false = true := by
      intro j hj ha
      obtain ⟨e, he, hb, h3⟩ := hanc j hj ha
      have h4 := h2 e he hb
      rcases h3 with rfl | ⟨h3, h5⟩
      · exact h4
      · exact hcl e.on j h5 h4 h3
    have C : Closed anc (fun i => listed.getD i false) k := ⟨hDk, mine, fun i hDi hki => by
      cases ha : isAnc anc k i with
      | false => rfl
      | true => rw [hcl i k hki hDi ha] at hDk; cases hDk⟩
    have hset : ∀ i, i ≠ k → (listed.setIfInBounds k true).getD i false = listed.getD i false := fun i hi => getD_set_ne false (Ne.symm hi)
    have hsetk : (listed.setIfInBounds k true).getD k false = true := by simp [hs, hkn]
    refine inv_step Z I ho C (D' := fun i => (listed.setIfInBounds k true).getD i false) hsetk hset J fun E' a' w' J' => ih _ E' a' w' (by simp [hs]) ?_ ?_ J'
    · intro i j hj hi ha
      by_cases hik : i = k
      · subst hik
        rw [hset j (by omega)]
        exact mine j hj ha
      · rw [hset i hik] at hi
        by_cases hjk : j = k
        · subst hjk; exact hsetk
        · rw [hset j hjk]
          exact hcl i j hj hi ha
    · have := count_less (p := fun i => !listed.getD i false) (q := fun i => !(listed.setIfInBounds k true).getD i false) (i := k) ?_ ?_ ?_ (List.range ops.size) (List.mem_range.2 hkn)
      · omega
      · intro j hj
        by_cases hjk : j = k
        · subst hjk; simp only [hsetk] at hj; cases hj
        · simpa only [hset j hjk] using hj
      · simp only [hDk]; rfl
      · simp only [hsetk]; rfl
theorem runDrawn_line (R : Good P G rec) {f f' : AF} {s s' : HS} (h : runDrawn P G rec ops anc f s = some (f', s')) : ∃ st : Nat → DS, Line P G rec ops anc st ∧ (st 0).f = f ∧ (st 0).s = s ∧ (st ops.size).f = f' ∧ (st ops.size).s = s' := by
  unfold runDrawn at h
  split at h
  · cases h
  · rename_i hs
    split at h
    · rename_i d hd
      cases h
      obtain ⟨st, s0, sn, hst⟩ := drawnGo_states _ 0 _ _ hd
      have hstat := statOk_spec _ 0 hs
      refine ⟨st, ⟨R, fun k o ho => drawn1_one R ?_, by rw [s0], fun k o ho => ?_, fun k o ho => ?_⟩, by rw [s0], by rw [s0], ?_, ?_⟩
      · have := hst k o (by simpa using ho)
        rwa [Nat.zero_add] at this
      · have := (hstat k o (by simpa using ho)).1
        rwa [Nat.zero_add] at this
      · have := (hstat k o (by simpa using ho)).2
        rwa [Nat.zero_add] at this
      · rw [← sn]; simp
      · rw [← sn]; simp
    · cases h
theorem Line.keeps (Z : Line P G rec ops anc st) : ∀ k, k ≤ ops.size → ∃ l, Keeps (st 0).s (st k).s l
  | 0, _ => ⟨[], Keeps.refl _⟩
  | k + 1, hk => by
    obtain ⟨l, K⟩ := Z.keeps k (by omega)
    obtain ⟨o, ho⟩ := op_at (ops := ops) (k := k) (by omega)
    cases Z.one k o ho with
    | off _ _ h1 _ => rw [h1]; exact ⟨l, K⟩
    | val _ _ _ _ _ h1 _ => rw [h1]; exact ⟨l, K⟩
    | heap v t rem nms _ _ H =>
      refine ⟨_, K.trans (t := (st k).s) (m := t.log) ⟨Z.next1 (by omega), H.log, fun b hb hl => H.keep b fun hn => ?_⟩⟩
      rw [H.next] at hb
      rcases (H.names b).1 hn with h | h
      · omega
      · exact hl h
theorem runDrawn_wp (hm : P.follows .mixedOrders = true) (R : Good P G rec) {f f' : AF} {s s' : HS} (h : runDrawn P G rec ops anc f s = some (f', s')) {l : List Nat} (hl : s'.log = l ++ s.log) {E : Em} {w : World} {a : Act} {id : Nat}
    (H : HR E s.at w) (T : TR E f a) (LG : GL E G) (D : DR E f.defers a.defers) (F : Fresh E s.next s'.next) : (Code.region id ops true).wp P (Post E s w .normal f' s' l) a w := by
  obtain ⟨st, Z, rfl, rfl, rfl, rfl⟩ := runDrawn_line R h
  have I : Root G ops st E { w with drawn := w.drawn + 1 } l := ⟨H.world rfl, LG, F, hl⟩
  refine wp_region_any hm (drawn_wp Z I ?_ ops.size _ E a _ (by simp) ?_ ?_ ?_)
  · intro E' a' w' J
    refine ⟨rfl, E', ?_, ⟨?_, ?_⟩, ?_⟩
    · have h1 : mixH ops st (fun _ => true) = (st ops.size).s.at := funext fun b => (Z.heap b ops.size (Nat.le_refl _)).symm
      have := J.tx
      rw [h1] at this
      exact this.drewL
    · rw [J.size, (Z.frame ops.size (Nat.le_refl _)).1]
    · intro t
      rw [Z.tmps t ops.size (Nat.le_refl _)]
      exact J.get t
    · rw [(Z.frame ops.size (Nat.le_refl _)).2]
      exact J.defers
  · intro k j _ hk _
    exfalso
    rw [Array.getD_eq_getD_getElem?, Array.getElem?_replicate] at hk
    split at hk <;> cases hk
  · exact Nat.le_trans List.countP_le_length (by simp)
  · have hD : (fun i => (Array.replicate ops.size false).getD i false) = fun _ => false := by
      funext i
      rw [Array.getD_eq_getD_getElem?, Array.getElem?_replicate]
      split <;> rfl
    rw [hD]
    have h1 : mixH ops st (fun _ => false) = (st 0).s.at := funext fun b => mix_none ops.size
    have h2 : mixT ops st (fun _ => false) = (st 0).f.get := funext fun b => mix_none ops.size
    refine ⟨?_, T.size, fun t => by rw [h2]; exact T.get t, D, fun k hk _ => ?_⟩
    · rw [h1]
      have H' : HR E (st 0).s.at { w with drawn := w.drawn + 1 } := H.world rfl
      exact (Tx.wide H' (Z.next (i := 0) ops.size (Nat.zero_le _) (Nat.le_refl _))).weaken fun b hb => by cases hb
    · exact F.sub (Z.next (i := 0) k (by omega) (by omega)) (Z.next (i := k + 1) ops.size (by omega) (Nat.le_refl _))
end
end Go.Proofs.YtkekpiillbpciaaGreatDoor.Cx

/- A machine that runs a program's code on written inputs by computation alone, part 23: what the machine computes of a function is what a call of it does. The program's draws must follow the mixed orders. -/
namespace Go.Proofs.YtkekpiillbpciaaGreatDoor.Cx
open Go

section
variable {P : Program} {G : Gl} {rec : Rec}
theorem iter_keeps (R : Good P G rec) {c : Code} : ∀ (n : Nat) (f f' : AF) (s s' : HS) (x : AX), iter rec c n f s = some (x, f', s') → ∃ l, Keeps s s' l
  | 0, f, f', s, s', x, h => by cases h
  | n + 1, f, f', s, s', x, h => by
    unfold iter at h
    split at h
    · rename_i f1 s1 hr
      obtain ⟨l1, k1⟩ := R.keep hr
      obtain ⟨l2, k2⟩ := iter_keeps R n _ _ _ _ _ h
      exact ⟨_, k1.trans k2⟩
    · rename_i hr; cases h; exact R.keep hr
    · rename_i hr; cases h; exact R.keep hr
    · cases h
theorem iter_wp (R : Good P G rec) {c : Code} : ∀ (n : Nat) (f f' : AF) (s s' : HS) (x : AX), iter rec c n f s = some (x, f', s') → ∀ (l : List Nat), s'.log = l ++ s.log → ∀ {E : Em} {w : World} {a : Act},
    HR E s.at w → TR E f a → GL E G → DR E f.defers a.defers → Fresh E s.next s'.next →
      ∀ (b : Frame) (k : List Item) (cs : List Frame), ∃ e a' w', Post E s w x f' s' l e a' w' ∧ Arrives P (lone (b.at a (.code c :: .inLoop c :: k)) cs w) b k cs e a' w'
  | 0, f, f', s, s', x, h => by cases h
  | n + 1, f, f', s, s', x, h => by
    intro l hl E w a H T L D F b k cs
    unfold iter at h
    split at h
    · rename_i f1 s1 hr
      obtain ⟨l1, k1⟩ := R.keep hr
      obtain ⟨l2, k2⟩ := iter_keeps R n _ _ _ _ _ h
      have hll : l = l2 ++ l1 := cancel (c := s.log) (by rw [← hl, k2.log, k1.log, List.append_assoc])
      subst hll
      obtain ⟨e, a1, w1, ⟨rfl, E1, T1, hT1, hD1⟩, harr⟩ := R.wp hr k1.log H T L D (F.sub (Nat.le_refl _) k2.le) b (.inLoop c :: k) cs
      obtain ⟨e2, a2, w2, ⟨he2, E2, T2, hT2, hD2⟩, harr2⟩ := iter_wp R n _ _ _ _ _ h _ k2.log T1.hr hT1 (L.ext T1.ext) hD1 (F.after T1) b k cs
      exact ⟨e2, a2, w2, ⟨he2, E2, T1.trans T2, hT2, hD2⟩, .of_steps (Steps.trans harr (.one step_inLoop)) harr2⟩
    · rename_i i f1 s1 hr
      cases h
      obtain ⟨e, a1, w1, ⟨rfl, hp⟩, harr⟩ := R.wp hr hl H T L D F b (.inLoop c :: k) cs
      exact ⟨_, a1, w1, ⟨rfl, hp⟩, .pass (x := .inLoop c) rfl (fun _ _ => .inl (by simp [AX.out])) harr⟩
    · rename_i f1 s1 hr
      cases h
      obtain ⟨e, a1, w1, ⟨rfl, hp⟩, harr⟩ := R.wp hr hl H T L D F b (.inLoop c :: k) cs
      exact ⟨_, a1, w1, ⟨rfl, hp⟩, .pass (x := .inLoop c) rfl (fun _ _ => .inl (by simp [AX.out])) harr⟩
    · cases h
theorem Post.refl {E : Em} {s : HS} {w : World} {f : AF} {l : List Nat} {a : Act} (hl : s.log = l ++ s.log) (H : HR E s.at w) (T : TR E f a) (D : DR E f.defers a.defers) (x : AX) : Post E s w x f s l x.out a w := by
  have : l = [] := cancel (c := s.log) (by rw [← hl]; rfl)
  subst this
  exact ⟨rfl, E, Tx.refl _ H, T, D⟩
theorem step_good (hm : P.follows .mixedOrders = true) (n : Nat) (R : Good P G rec) : Good P G (step P G n rec) := by
  refine ⟨R.known, ?_, ?_⟩
  · intro c f s x f' s' h
    unfold step at h
    split at h
    · cases h; exact ⟨[], Keeps.refl _⟩
    · cases h; exact ⟨[], Keeps.refl _⟩
    · split at h
      · rename_i hr; cases h; exact runOps_keeps R _ _ _ _ _ hr
      · cases h
    · split at h
      · rename_i hr
        cases h
        obtain ⟨st, Z, rfl, rfl, rfl, rfl⟩ := runDrawn_line R hr
        exact Z.keeps _ (Nat.le_refl _)
      · cases h
    · split at h
      · rename_i hr
        obtain ⟨l1, k1⟩ := R.keep hr
        obtain ⟨l2, k2⟩ := R.keep h
        exact ⟨_, k1.trans k2⟩
      · rename_i hr; cases h; exact R.keep hr
      · rename_i hr; cases h; exact R.keep hr
      · cases h
    · split at h
      · exact R.keep h
      · exact R.keep h
      · cases h
    · split at h
      · rename_i hr
        split at h
        · cases h; exact R.keep hr
        · cases h; exact R.keep hr
      · rename_i hr; cases h; exact R.keep hr
      · rename_i hr; cases h; exact R.keep hr
      · cases h
    · exact iter_keeps R _ _ _ _ _ _ h
    · cases h; exact ⟨[], Keeps.refl _⟩
    · cases h; exact ⟨[], Keeps.refl _⟩
    · exact R.keep h
    · cases h
  · intro c f s x f' s' h l hl E w a H T L D F
    unfold step at h
    split at h
    · cases h; exact wp_skip (Post.refl hl H T D .normal)
    · cases h; exact wp_label (Post.refl hl H T D .normal)
    · rename_i id ops
      split at h
      · rename_i f1 s1 hr
        cases h
        refine wp_region ?_
        have := runOps_wp R (ops := ops) (Q := Post E s w .normal f' s' l) ops.toList 0 f f' s s' a E w l rfl hr hl H T L D F fun a' w' E' T' hT hD => ⟨rfl, E', T', hT, hD⟩
        simpa [List.range_eq_range'] using this
      · cases h
    · split at h
      · rename_i f1 s1 hr
        cases h
        exact runDrawn_wp hm R hr hl H T L D F
      · cases h
    · rename_i c1 c2
      split at h
      · rename_i f1 s1 hr
        obtain ⟨l1, k1⟩ := R.keep hr
        obtain ⟨l2, k2⟩ := R.keep h
        have hll : l = l2 ++ l1 := cancel (c := s.log) (by rw [← hl, k2.log, k1.log, List.append_assoc])
        subst hll
        refine wp_seq (wp_mono (R.wp hr k1.log H T L D (F.sub (Nat.le_refl _) k2.le)) ?_)
        rintro e a1 w1 ⟨rfl, E1, T1, hT1, hD1⟩
        refine wp_mono (R.wp h k2.log T1.hr hT1 (L.ext T1.ext) hD1 (F.after T1)) ?_
        rintro e a2 w2 ⟨rfl, E2, T2, hT2, hD2⟩
        exact ⟨rfl, E2, T1.trans T2, hT2, hD2⟩
      · rename_i i f1 s1 hr
        cases h
        refine wp_seq (wp_mono (R.wp hr hl H T L D F) ?_)
        rintro e a1 w1 ⟨rfl, hp⟩
        exact ⟨rfl, hp⟩
      · rename_i f1 s1 hr
        cases h
        refine wp_seq (wp_mono (R.wp hr hl H T L D F) ?_)
        rintro e a1 w1 ⟨rfl, hp⟩
        exact ⟨rfl, hp⟩
      · cases h
    · rename_i c0 c1 c2
      split at h
      · rename_i hok hb
        have := ev_rel T L hok
        rw [hb] at this
        exact wp_cond (bool_inv this) (R.wp h hl H T L D F)
      · rename_i hok hb
        have := ev_rel T L hok
        rw [hb] at this
        exact wp_cond (bool_inv this) (R.wp h hl H T L D F)
      · cases h
    · rename_i id c1
      split at h
      · rename_i i f1 s1 hr
        split at h
        · rename_i hi
          cases h
          refine wp_block (wp_mono (R.wp hr hl H T L D F) ?_)
          rintro e a1 w1 ⟨rfl, hp⟩
          simp only [AX.out, Exit.inBlock, beq_eq hi, if_true]
          exact ⟨rfl, hp⟩
        · rename_i hi
          cases h
          refine wp_block (wp_mono (R.wp hr hl H T L D F) ?_)
          rintro e a1 w1 ⟨rfl, hp⟩
          simp only [AX.out, Exit.inBlock, beq_ne hi, if_false]
          exact ⟨rfl, hp⟩
      · rename_i f1 s1 hr
        cases h
        refine wp_block (wp_mono (R.wp hr hl H T L D F) ?_)
        rintro e a1 w1 ⟨rfl, hp⟩
        exact ⟨rfl, hp⟩
      · rename_i f1 s1 hr
        cases h
        refine wp_block (wp_mono (R.wp hr hl H T L D F) ?_)
        rintro e a1 w1 ⟨rfl, hp⟩
        exact ⟨rfl, hp⟩
      · cases h
    · rename_i c1
      intro b k cs
      obtain ⟨e, a', w', hq, harr⟩ := iter_wp R n f f' s s' x h l hl H T L D F b k cs
      exact ⟨e, a', w', hq, .of_steps (.one step_loop) harr⟩
    · cases h; exact wp_exit (Post.refl hl H T D (.exit _))
    · cases h; exact wp_ret (Post.refl hl H T D .ret)
    · refine wp_scope_straight (wp_mono (R.wp h hl H T L D F) ?_)
      rintro e a' w' hp
      have he := hp.1
      cases x <;> (simp only [AX.out] at he; subst he; exact hp)
    · cases h
theorem run_good (hm : P.follows .mixedOrders = true) (hK : ∀ x ∈ G.known, KOk P G.vars x ∧ x.n0 ≤ x.n1) : ∀ n, Good P G (run P G n)
  | 0 => by
    refine ⟨hK, ?_, ?_⟩
    · intro c f s x f' s' h; cases h
    · intro c f s x f' s' h; cases h
  | n + 1 => step_good hm n (run_good hm hK n)

/-- a run in less of the heap that it leaves -/
theorem Tx.shrink {E E' : Em} {h h' g' : Hp} {w w' : World} {n n' : Nat} {l : List Nat} (A : Tx E h w n E' h' w' n' l) (sub : ∀ b o, g' b = some o → h' b = some o) (old : ∀ b, b < n ∨ n' ≤ b → g' b = h b) :
    Tx E h w n E' g' w' n' [] :=
  ⟨A.le, A.ext, A.dom, A.hr.sub sub, fun b hb _ => old b hb, fun b o hb => A.domle b o (sub b o hb), fun b o e h1 h2 hb he => A.news b o e h1 h2 (sub b o hb) he, A.frame, A.size, A.os, A.tape, A.output⟩
/-- does the machine compute what a known call says? -/
def knows (P : Program) (G : Gl) (n : Nat) (x : Known) : Bool := match callF P G (run P G n) x.fn x.args ⟨setAll x.inH .leaf, x.n0, []⟩ with
  | some (v, s) => veq v x.v && (Nat.beq s.next x.n1 && (s.log.all (fun b => Nat.ble x.n0 b && Nat.blt b x.n1) && (x.outH.all (fun p => Nat.ble x.n0 p.1 && Nat.blt p.1 x.n1) && (x.inH.all (fun p => Nat.ble p.1 lim) && allIn s x.outH))))
  | none => false
theorem knows_ok (hm : P.follows .mixedOrders = true) (hK : ∀ x ∈ G.known, KOk P G.vars x ∧ x.n0 ≤ x.n1) {n : Nat} {x : Known} (h : knows P G n x = true) : KOk P G.vars x ∧ x.n0 ≤ x.n1 := by
  unfold knows at h
  split at h
  · rename_i v s hc
    simp only [Bool.and_eq_true] at h
    obtain ⟨h1, h2, h3, h4, h5, h6⟩ := h
    have R := run_good hm hK n
    have hv := veq_eq h1
    have hn : s.next = x.n1 := beq_eq h2
    have hin : (⟨setAll x.inH .leaf, x.n0, []⟩ : HS).at = look x.inH := by
      funext b
      unfold HS.at
      show (setAll x.inH .leaf).get b = _
      rw [setAll_get _ _ _ fun p hp => ble_le (List.all_eq_true.1 h5 p hp)]
      cases look x.inH b <;> rfl
    obtain ⟨l, K⟩ := callF_keeps R hc
    have hl : l = s.log := by have := K.log; simpa using this.symm
    subst hl
    have hle : x.n0 ≤ s.next := K.le
    refine ⟨?_, by omega⟩
    intro E w args' H ha L F
    have hall := fun p hp => List.all_eq_true.1 h4 p hp
    refine Calls.mono (callF_calls R hc (l := s.log) (by simp) (E := E) (w := w) (by rw [hin]; exact H) ha L (by rw [hn]; exact F)) ?_
    rintro e w' ⟨v', E', rfl, hvv, T⟩
    refine ⟨v', E', rfl, hv ▸ hvv, ?_⟩
    rw [hin] at T
    have T : Tx E (look x.inH) w x.n0 E' s.at w' s.next s.log := T
    rw [hn] at T
    have hlog : ∀ b ∈ s.log, x.n0 ≤ b ∧ b < x.n1 := fun b hb => by
      have := List.all_eq_true.1 h3 b hb
      simp only [Bool.and_eq_true, Nat.blt_eq] at this
      exact ⟨ble_le this.1, this.2⟩
    have hout : ∀ b o, look x.outH b = some o → x.n0 ≤ b ∧ b < x.n1 := fun b o hb => by
      have := hall _ (look_mem _ _ _ hb)
      simp only [Bool.and_eq_true, Nat.blt_eq] at this
      exact ⟨ble_le this.1, this.2⟩
    refine T.shrink ?_ ?_
    · intro b o hb
      unfold Known.out at hb
      cases ho : look x.outH b with
      | some o' =>
        rw [ho] at hb
        cases hb
        exact allIn_spec x.outH h6 (b, o) (look_mem x.outH b o ho)
      | none =>
        rw [ho] at hb
        have hb : look x.inH b = some o := hb
        obtain ⟨e, he, _⟩ := H.here b o hb
        have hbn : b < x.n0 ∨ x.n1 ≤ b := by
          rcases Nat.lt_or_ge b x.n0 with h | h
          · exact .inl h
          · rcases Nat.lt_or_ge b x.n1 with h' | h'
            · rw [F b h h'] at he; cases he
            · exact .inr h'
        rw [T.keep b hbn fun hx => by have := hlog b hx; omega]
        exact hb
    · intro b hb
      unfold Known.out
      cases ho : look x.outH b with
      | some o => have := hout b o ho; omega
      | none => rfl
  · cases h
/-- what a function does that is called with nothing kept: what the machine computes, and no block that was there is changed -/
theorem run_calls (hm : P.follows .mixedOrders = true) {K : List Known} (hK : ∀ x ∈ K, KOk P [] x ∧ x.n0 ≤ x.n1) {n g next : Nat} {args : List Value} {args' : Array Value} {v : Value} {s' : HS} (h : callF P ⟨[], K⟩ (run P ⟨[], K⟩ n) g args ⟨.leaf, next, []⟩ = some (v, s')) (hv : bare v = true)
    (ha : args' = args.toArray) (hb : ∀ x ∈ args, bare x = true) (w : World) : Calls P g args' w fun e w' => e = .returned v ∧ RowKit.Below w.heap.size w w' := by
  subst ha
  have R := run_good (G := ⟨[], K⟩) hm hK n
  have hat : ∀ b, (⟨.leaf, next, []⟩ : HS).at b = none := fun b => rfl
  refine Calls.mono (callF_calls R h (l := s'.log) (by simp) (E := fun _ => none) (w := w) ⟨fun b o hb => ?_, fun b c o o' e e' hb => ?_⟩ ?_ (fun g hg => by cases hg) (fun b _ _ => rfl)) ?_
  · rw [hat] at hb; cases hb
  · rw [hat] at hb; cases hb
  · have := LR.self (E := fun _ => none) fun x hx => bare_self x (hb x hx)
    simpa using this
  · rintro e w' ⟨v', E', rfl, hvv, T⟩
    obtain rfl := bare_eq hv hvv
    refine ⟨rfl, T.os, T.tape, T.output, T.size, fun k hk => T.frame k hk fun b o e hb => ?_⟩
    rw [hat] at hb
    cases hb
/-- the machine computes true -/
def wakes (P : Program) (K : List Known) (n g : Nat) : Bool := match callF P ⟨[], K⟩ (run P ⟨[], K⟩ n) g [] ⟨.leaf, 0, []⟩ with
  | some (.bool true, _) => true
  | _ => false
theorem wakes_calls (hm : P.follows .mixedOrders = true) {K : List Known} (hK : ∀ x ∈ K, KOk P [] x ∧ x.n0 ≤ x.n1) {n g : Nat} (h : wakes P K n g = true) (w : World) : Calls P g #[] w fun e w' => e = .returned (.bool true) ∧ RowKit.Below w.heap.size w w' := by
  unfold wakes at h
  split at h
  · rename_i s' hc
    exact run_calls hm hK hc rfl rfl (fun x hx => by cases hx) w
  · cases h
end
end Go.Proofs.YtkekpiillbpciaaGreatDoor.Cx

/- Calls whose arguments hold no names: what the machine computes of them is what they return. -/
namespace Go.Proofs.YtkekpiillbpciaaGreatDoor.Cx
open Go
/-- does the machine compute v? -/
def closedB (P : Program) (K : List Known) (n g : Nat) (args : List Value) (v : Value) : Bool := match callF P ⟨[], K⟩ (run P ⟨[], K⟩ n) g args ⟨.leaf, 0, []⟩ with
  | some (u, _) => veq u v
  | none => false
theorem closed_calls {P : Program} (hm : P.follows .mixedOrders = true) {K : List Known} (hK : ∀ x ∈ K, KOk P [] x ∧ x.n0 ≤ x.n1) {n g : Nat} {args : List Value} {args' : Array Value} {v : Value} (h : closedB P K n g args v = true) (ha : args' = args.toArray) (hv : bare v = true) (hb : ∀ x ∈ args, bare x = true) (w : World) :
    Calls P g args' w fun e w' => e = .returned v ∧ RowKit.Below w.heap.size w w' := by
  unfold closedB at h
  split at h
  · rename_i u s' hc
    obtain rfl := veq_eq h
    exact run_calls hm hK hc hv ha hb w
  · cases h
/-- what a closed call leaves, with the kept heap that it makes -/
theorem open_calls {P : Program} (hm : P.follows .mixedOrders = true) {K : List Known} (hK : ∀ x ∈ K, KOk P [] x ∧ x.n0 ≤ x.n1) {n g : Nat} {args : List Value} {args' : Array Value} {v : Value} {s' : HS} (h : callF P ⟨[], K⟩ (run P ⟨[], K⟩ n) g args ⟨.leaf, 0, []⟩ = some (v, s')) (ha : args' = args.toArray) (hb : ∀ x ∈ args, bare x = true) (w : World) :
    Calls P g args' w fun e w' => ∃ v' E', e = .returned v' ∧ VR E' v v' ∧ HR E' s'.at w' ∧ (∀ b o e, s'.at b = some o → E' b = some e → w.heap.size ≤ e.blk) ∧ RowKit.Below w.heap.size w w' := by
  subst ha
  have R := run_good (G := ⟨[], K⟩) hm hK n
  have hat : ∀ b, (⟨.leaf, 0, []⟩ : HS).at b = none := fun b => rfl
  refine Calls.mono (callF_calls R h (l := s'.log) (by simp) (E := fun _ => none) (w := w) ⟨fun b o hb => ?_, fun b c o o' e e' hb => ?_⟩ ?_ (fun g hg => by cases hg) (fun b _ _ => rfl)) ?_
  · rw [hat] at hb; cases hb
  · rw [hat] at hb; cases hb
  · have := LR.self (E := fun _ => none) fun x hx => bare_self x (hb x hx)
    simpa using this
  · rintro e w' ⟨v', E', rfl, hvv, T⟩
    refine ⟨v', E', rfl, hvv, T.hr, fun b o e hb he => ?_, T.os, T.tape, T.output, T.size, fun k hk => T.frame k hk fun b o e hb => ?_⟩
    · rcases T.domle b o hb with ⟨o', h0⟩ | ⟨h1, h2⟩
      · rw [hat] at h0; cases h0
      · rcases T.news b o e h1 h2 hb he with h3 | ⟨c, o', e', h3, _⟩
        · exact h3
        · rw [hat] at h3; cases h3
    · rw [hat] at hb
      cases hb
end Go.Proofs.YtkekpiillbpciaaGreatDoor.Cx
