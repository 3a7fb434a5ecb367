/- A machine that runs a program's code on written inputs by computation alone, part 21: a region that draws its order does what its text's order does, in every order. No condition. -/
import Derived.Test.YtcnclcfglfgjlaaGreatDoorCxDrawn2
namespace Go.Proofs.YtcnclcfglfgjlaaGreatDoor.Cx
open Go

section
variable {P : Program} {G : Gl} {rec : Rec} {ops : Array Oper} {anc : List Nat} {st : Nat → DS}
abbrev mixH (ops : Array Oper) (st : Nat → DS) (D : Nat → Bool) : Hp := mix (NB st) (fun k => (st (k + 1)).s.at) (st 0).s.at D ops.size
abbrev mixT (ops : Array Oper) (st : Nat → DS) (D : Nat → Bool) : Nat → Value := mix (TB ops) (fun k => (st (k + 1)).f.get) (st 0).f.get D ops.size
/-- where a run of the region begins -/
structure Root (G : Gl) (ops : Array Oper) (st : Nat → DS) (E0 : Em) (w0 : World) (L : List Nat) : Prop where
  hr : HR E0 (st 0).s.at w0
  gl : GL E0 G
  fresh : Fresh E0 (st 0).s.next (st ops.size).s.next
  log : (st ops.size).s.log = L ++ (st 0).s.log
/-- what holds when the operations of D have been carried out -/
structure Inv (ops : Array Oper) (st : Nat → DS) (E0 : Em) (w0 : World) (L : List Nat) (D : Nat → Bool) (E : Em) (a : Act) (w : World) : Prop where
  tx : Tx E0 (st 0).s.at w0 (st 0).s.next E (mixH ops st D) w (st ops.size).s.next L
  size : a.tmps.size = (st 0).f.size
  get : ∀ t, VR E (mixT ops st D t) (a.tmps.getD t undef)
  defers : DR E (st 0).f.defers a.defers
  fresh : ∀ k, k < ops.size → D k = false → Fresh E (st k).s.next (st (k + 1)).s.next
/-- with an operation all that it has to wait for has been carried out -/
structure Closed (anc : List Nat) (D : Nat → Bool) (k : Nat) : Prop where
  out : D k = false
  mine : ∀ j, j < k → isAnc anc j k = true → D j = true
  all : ∀ i, D i = true → k < i → isAnc anc k i = false
variable {E0 E : Em} {w0 w : World} {L : List Nat} {D D' : Nat → Bool} {a : Act} {k : Nat} {o : Oper}

/-- the temporaries that an operation reads -/
theorem read_tmps (Z : Line P G rec ops anc st) (ho : ops[k]? = some o) (C : Closed anc D k) {t : Nat} (ht : t ∈ o.looksAt ops) : mixT ops st D t = (st k).f.get t := by
  have hk : k < ops.size := (Array.getElem?_eq_some_iff.1 ho).1
  rw [Z.tmps t k (by omega)]
  have h1 : mix (TB ops) (fun k => (st (k + 1)).f.get) (st 0).f.get D ops.size t = mix (TB ops) (fun k => (st (k + 1)).f.get) (st 0).f.get D k t := by
    refine mix_high ops.size (by omega) fun i hi hin hDi => ?_
    obtain ⟨x, hx⟩ := op_at hin
    have hne : i ≠ k := fun h => by subst h; rw [C.out] at hDi; cases hDi
    obtain ⟨_, h2⟩ := Z.apart2 ho hx (by omega)
    obtain ⟨_, h3⟩ := h2 (C.all i hDi (by omega))
    unfold TB
    rw [hx]
    simp only [Option.bind_some, decide_eq_false_iff_not]
    intro hd
    exact h3 t hd ht
  rw [show mixT ops st D t = _ from h1]
  refine mix_low k fun i hi hb => ?_
  obtain ⟨x, hx⟩ := op_at (ops := ops) (k := i) (by omega)
  unfold TB at hb
  rw [hx] at hb
  simp only [Option.bind_some, decide_eq_true_eq] at hb
  cases ha : isAnc anc i k with
  | true => exact C.mine i hi ha
  | false =>
    obtain ⟨_, h2⟩ := Z.apart2 hx ho hi
    exact absurd ht ((h2 ha).1 t hb)
/-- the heap on which an operation has been run is part of the heap that is there -/
theorem read_heap (Z : Line P G rec ops anc st) (I : Root G ops st E0 w0 L) (C : Closed anc D k) {v : Value} {t : HS} {rem nms : List Nat} (hk : k < ops.size) (H : Heaped P G rec anc k o (st k) (st (k + 1)) v t rem nms)
    {b : Nat} {ob : AObj} (hb : (st k).s.at b = some ob) (hr : b ∉ rem) : mixH ops st D b = some ob := by
  rw [← hb, Z.heap b k (by omega)]
  have h1 : mix (NB st) (fun k => (st (k + 1)).s.at) (st 0).s.at D ops.size b = mix (NB st) (fun k => (st (k + 1)).s.at) (st 0).s.at D k b := by
    refine mix_high ops.size (by omega) fun i hi hin hDi => ?_
    have hne : i ≠ k := fun h => by subst h; rw [C.out] at hDi; cases hDi
    cases hx : NB st i b with
    | false => rfl
    | true =>
      exfalso
      obtain ⟨o', v', t', rem', nms', H', hb'⟩ := Z.named hin hx
      have hin' := Z.in_done H i (by omega) (by omega)
      have hnew : (st i).s.next ≤ b ∧ b < t'.next := by
        rcases (H'.names b).1 hb' with h | h
        · exact h
        · exact H'.free _ hin' (C.all i hDi (by omega)) b h
      -- no name so high lies in the heap before
      have hlow : (st k).s.at b = (st 0).s.at b := by
        rw [Z.heap b k (by omega)]
        refine mix_high (k := 0) k (Nat.zero_le k) fun j _ hj _ => ?_
        cases hy : NB st j b with
        | false => rfl
        | true =>
          exfalso
          obtain ⟨o2, v2, t2, rem2, nms2, H2, hb2⟩ := Z.named (by omega) hy
          have h3 := (Z.done (j + 1) (by omega) ⟨j, nms2⟩ (by rw [H2.done]; simp)).2.2 b hb2
          have h4 := Z.next (i := j + 1) i (by omega) (by omega)
          omega
      rw [hlow] at hb
      obtain ⟨e, he, _⟩ := I.hr.here b ob hb
      have h5 := Z.next (i := 0) i (by omega) (by omega)
      have h6 := Z.next (i := i + 1) ops.size (by omega) (by omega)
      rw [I.fresh b (by omega) (by have := H'.next; omega)] at he
      cases he
  rw [show mixH ops st D b = _ from h1]
  refine mix_low k fun i hi hx => ?_
  cases ha : isAnc anc i k with
  | true => exact C.mine i hi ha
  | false =>
    exfalso
    obtain ⟨o', v', t', rem', nms', H', hb'⟩ := Z.named (by omega) hx
    have hin' := Z.in_done H' k hi (by omega)
    refine hr ?_
    rw [H.rem_eq, List.mem_flatMap]
    exact ⟨_, List.mem_filter.2 ⟨hin', by simp [ha]⟩, hb'⟩
/-- what an operation has written stays -/
theorem write_heap (Z : Line P G rec ops anc st) (C : Closed anc D k) (hD' : D' k = true) (hDD : ∀ i, i ≠ k → D' i = D i) {v : Value} {t : HS} {rem nms : List Nat} (hk : k < ops.size) (H : Heaped P G rec anc k o (st k) (st (k + 1)) v t rem nms) :
    patch nms t.at (mixH ops st D) = mixH ops st D' := by
  funext b
  unfold patch
  by_cases hb : b ∈ nms
  · rw [if_pos hb, ← H.here b hb]
    refine (mix_in (N := NB st) (R := fun k => (st (k + 1)).s.at) (h := (st 0).s.at) hDD hD' (by unfold NB; rw [H.nms_eq]; simpa using hb) ops.size hk fun i hi hin hDi => ?_).symm
    cases hx : NB st i b with
    | false => rfl
    | true =>
      exfalso
      obtain ⟨o', v', t', rem', nms', H', hb'⟩ := Z.named hin hx
      have hin' := Z.in_done H i hi (by omega)
      have hna := C.all i hDi hi
      have hlt := (Z.done i (by omega) _ hin').2.2 b hb
      have hrem : b ∈ rem' := by
        rw [H'.rem_eq, List.mem_flatMap]
        exact ⟨_, List.mem_filter.2 ⟨hin', by simp [hna]⟩, hb⟩
      rcases (H'.names b).1 hb' with h | h
      · omega
      · rcases H'.low b h with h | h
        · omega
        · exact h.2 hrem
  · rw [if_neg hb]
    exact (mix_out hDD (by unfold NB; rw [H.nms_eq]; simpa using hb) ops.size).symm
theorem quiet_heap (hDD : ∀ i, i ≠ k → D' i = D i) (hq : nmsAt st k = []) : mixH ops st D = mixH ops st D' := by
  funext b
  exact (mix_out hDD (by unfold NB; rw [hq]; rfl) ops.size).symm
theorem write_tmps (Z : Line P G rec ops anc st) (ho : ops[k]? = some o) (hD' : D' k = true) (hDD : ∀ i, i ≠ k → D' i = D i) {v v' : Value} (hp : (st k).f.putO o.dst v = some (st (k + 1)).f) (hs : a.tmps.size = (st 0).f.size)
    (hv : VR E v v') (h : ∀ t, VR E (mixT ops st D t) (a.tmps.getD t undef)) (t : Nat) : VR E (mixT ops st D' t) ((a.put o.dst v').tmps.getD t undef) := by
  have hk : k < ops.size := (Array.getElem?_eq_some_iff.1 ho).1
  rw [act_put_get a o.dst v' t fun d' hd => by rw [hs, ← (Z.frame k (by omega)).1]; exact putO_lt hp d' hd]
  by_cases ht : o.dst = some t
  · rw [if_pos ht]
    have : mixT ops st D' t = (st (k + 1)).f.get t := by
      refine mix_in hDD hD' (by unfold TB; rw [ho]; simpa using ht) ops.size hk fun i hi hin _ => ?_
      obtain ⟨x, hx⟩ := op_at hin
      unfold TB
      rw [hx]
      simp only [Option.bind_some, decide_eq_false_iff_not]
      exact (Z.apart2 ho hx hi).1 t ht
    rw [this, (AF.putO_spec hp).2.2 t, if_pos ht]
    exact hv
  · rw [if_neg ht]
    have : mixT ops st D' t = mixT ops st D t := mix_out hDD (by unfold TB; rw [ho]; simpa using ht) ops.size
    rw [this]
    exact h t
theorem inv_step (Z : Line P G rec ops anc st) (I : Root G ops st E0 w0 L) (ho : ops[k]? = some o) (C : Closed anc D k) (hD' : D' k = true) (hDD : ∀ i, i ≠ k → D' i = D i) (J : Inv ops st E0 w0 L D E a w)
    {K : Act → World → Prop} {Q : Exit → Act → World → Prop} (hK : ∀ E' a' w', Inv ops st E0 w0 L D' E' a' w' → K a' w') : wpOp P ops Q k K a w := by
  have hk : k < ops.size := (Array.getElem?_eq_some_iff.1 ho).1
  have read : ∀ t, t ∈ o.looksAt ops → VR E ((st k).f.get t) (a.tmps.getD t undef) := fun t ht => by rw [← read_tmps Z ho C ht]; exact J.get t
  have hw : Region.wanted o (yielded ops a.tmps) = wantedA ops (st k).f o := wantedA_eq fun g wt t hg ht => read t (by simp [Oper.looksAt, hg, ht])
  have hρ : o.op.operands.all (okOp G) = true → ∀ z ∈ o.op.operands, VR E (ev (st k).f z) (a.eval z) := by
    intro hok z hz
    have hzok := Array.all_eq_true_iff_forall_mem.1 hok z hz
    cases z with
    | tmp t => exact read t (List.mem_append_left _ (List.mem_filterMap.2 ⟨.tmp t, by simpa using hz, rfl⟩))
    | const v => exact bare_self v hzok
    | global g =>
      obtain ⟨e, he, hb⟩ := (I.gl.ext J.tx.ext) g (by simpa [okOp] using hzok)
      have := VR.ptr g 0 e he
      rw [hb] at this
      exact this
    | func g => exact VR.func' trivial trivial
  have same : ∀ v v', (st k).f.putO o.dst v = some (st (k + 1)).f → (st (k + 1)).done = (st k).done → VR E v v' → Inv ops st E0 w0 L D' E (a.put o.dst v') w := by
    intro v v' hp hd hv
    refine ⟨?_, by rw [act_put_size]; exact J.size, write_tmps Z ho hD' hDD hp J.size hv J.get, by rw [act_put_defers]; exact J.defers, fun i hi hDi => J.fresh i hi ?_⟩
    · rw [← quiet_heap hDD (Z.quiet hk hd)]
      exact J.tx
    · by_cases hik : i = k
      · subst hik; exact C.out
      · rw [← hDD i hik]; exact hDi
  unfold wpOp
  simp only [ho]
  rw [hw]
  cases Z.one k o ho with
  | off h1 h2 _ h3 =>
    rw [h1]
    simp only [Bool.false_eq_true, if_false]
    exact hK E _ _ (same _ _ h2 h3 VR.undef)
  | val v h1 h2 h3 h4 _ h5 =>
    rw [h1]
    simp only [if_true]
    refine .inl ?_
    obtain ⟨v', k1, k2⟩ := heapless_run h3 (hρ h2)
    unfold Oper.wp
    rw [k2 w]
    exact hK E _ _ (same _ _ h4 h5 k1)
  | heap v t rem nms h1 h2 H =>
    rw [h1]
    simp only [if_true]
    refine .inl ?_
    have hat : ∀ b, (⟨eraseAll rem (st k).s.heap, (st k).s.next, []⟩ : HS).at b = if b ∈ rem then none else (st k).s.at b := by
      intro b
      refine eraseAll_get rem (st k).s.heap b fun c hc => ?_
      rw [H.rem_eq, List.mem_flatMap] at hc
      obtain ⟨x, hx, hc⟩ := hc
      exact ((Z.done k (by omega) x (List.mem_filter.1 hx).1).2.2 c hc).2
    have sub : ∀ b ob, (⟨eraseAll rem (st k).s.heap, (st k).s.next, []⟩ : HS).at b = some ob → mixH ops st D b = some ob := by
      intro b ob hb
      rw [hat b] at hb
      by_cases hr : b ∈ rem
      · rw [if_pos hr] at hb; cases hb
      · rw [if_neg hr] at hb
        exact read_heap Z I C hk H hb hr
    have hfr : Fresh E (st k).s.next t.next := by rw [← H.next]; exact J.fresh k hk C.out
    refine stepOp_wp Z.good H.run (l := t.log) (by simp) (J.tx.hr.sub sub) (hρ h2) (I.gl.ext J.tx.ext) hfr fun E' w' v' T hv => ?_
    have T2 := T.lift J.tx.hr sub hfr (N := nms) H.names
    rw [write_heap Z C hD' hDD hk H] at T2
    have n1 := Z.next (i := 0) k (by omega) (by omega)
    have n2 := Z.next (i := k + 1) ops.size (by omega) (by omega)
    rw [H.next] at n2
    have T3 := J.tx.within T2 n1 n2
    have hlog : ∀ b ∈ t.log ++ L, b ∈ L := by
      intro b hb
      rcases List.mem_append.1 hb with hb | hb
      · obtain ⟨X, hX⟩ := Z.log (i := k + 1) ops.size (by omega) (by omega)
        obtain ⟨Y, hY⟩ := Z.log (i := 0) k (by omega) (by omega)
        have : L = X ++ (t.log ++ Y) := cancel (c := (st 0).s.log) (by rw [← I.log, hX, H.log, hY]; simp)
        rw [this]
        simp [hb]
      · exact hb
    refine hK E' _ _ ⟨T3.weaken hlog, by rw [act_put_size]; exact J.size, write_tmps Z ho hD' hDD H.put J.size hv fun t => (J.get t).ext T.ext, by rw [act_put_defers]; exact J.defers.ext T.ext, fun i hi hDi => ?_⟩
    have hik : i ≠ k := fun h => by subst h; rw [hD'] at hDi; cases hDi
    have hDi' : D i = false := by rw [← hDD i hik]; exact hDi
    intro b hb1 hb2
    cases hx : E' b with
    | none => rfl
    | some e =>
      rcases T.dom b e hx with h3 | h3
      · rw [J.fresh i hi hDi' b hb1 hb2] at h3; cases h3
      · exfalso
        have h3' : (st k).s.next ≤ b ∧ b < (st (k + 1)).s.next := by rw [H.next]; exact h3
        rcases Nat.lt_or_ge i k with hlt | hge
        · have := Z.next (i := i + 1) k (by omega) (by omega)
          omega
        · have := Z.next (i := k + 1) i (by omega) (by omega)
          omega
end
end Go.Proofs.YtcnclcfglfgjlaaGreatDoor.Cx
