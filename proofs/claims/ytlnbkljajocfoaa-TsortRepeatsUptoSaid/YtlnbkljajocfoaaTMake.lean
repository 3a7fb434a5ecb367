/- Sort's statement that makes four slices, a map and a struct, in whatever order: what it leaves. -/
import Derived.Test.YtlnbkljajocfoaaTCycle
namespace Go.Proofs.Ytlnbkljajocfoaa.TMake
open Go Go.RowKit Go.Maps Go.WideMaps Strs Topo TWords TPairs TGraph TRead TSorter TBefore TSlices TReverse TClone TClear TCycle

section
variable {P : Program} {ops : Array Oper} {md : Region.Mode}
theorem falses_set (l : List Bool) : ∀ (i : Nat), l[i]? = some false → ((l.set i true).filter (!·)).length + 1 = (l.filter (!·)).length := by
  induction l with
  | nil => intro i h; simp at h
  | cons x l ih =>
    intro i h
    cases i with
    | zero => simp at h; subst h; simp
    | succ i =>
      have := ih i (by simpa using h)
      cases x <;> simp <;> omega
/-- an invariant over all orders -/
theorem wpAny_inv {Q : Exit → Act → World → Prop} (Inv : Array Bool → Act → World → Prop)
    (hstep : ∀ listed a w i, listed.size = ops.size → Inv listed a w → i ∈ Region.ready md ops listed → ∀ K : Act → World → Prop, (∀ a' w', Inv (listed.setIfInBounds i true) a' w' → K a' w') → wpOp P ops Q i K a w)
    (hend : ∀ listed a w, listed.size = ops.size → Inv listed a w → Region.ready md ops listed = [] → Q .normal a w) :
    ∀ (fuel : Nat) (listed : Array Bool) (a : Act) (w : World), listed.size = ops.size → (listed.toList.filter (!·)).length ≤ fuel → Inv listed a w → wpAny P md ops Q fuel listed a w
  | 0, listed, a, w, hs, hf, h => by
    have hr : Region.ready md ops listed = [] := by
      cases hr : Region.ready md ops listed with
      | nil => rfl
      | cons j r =>
        have hj := (mem_ready.1 (show j ∈ Region.ready md ops listed by rw [hr]; simp)).1
        have hlt : j < listed.size := by
          rcases Nat.lt_or_ge j listed.size with h' | h'
          · exact h'
          · simp [Array.getElem?_eq_none h'] at hj
        have hx : listed.toList[j]? = some false := by simp [hlt] at hj ⊢; exact hj
        have := falses_set listed.toList j hx
        omega
    exact ⟨hr, hend _ _ _ hs h hr⟩
  | fuel + 1, listed, a, w, hs, hf, h => by
    refine ⟨fun hr => hend _ _ _ hs h hr, fun i hi => hstep _ _ _ _ hs h hi _ fun a' w' h' => ?_⟩
    refine wpAny_inv Inv hstep hend fuel _ a' w' (by simp [hs]) ?_ h'
    have hj := (mem_ready.1 hi).1
    have hlt : i < listed.size := by
      rcases Nat.lt_or_ge i listed.size with h' | h'
      · exact h'
      · simp [Array.getElem?_eq_none h'] at hj
    have hx : listed.toList[i]? = some false := by simp [hlt] at hj ⊢; exact hj
    have := falses_set listed.toList i hx
    rw [Array.toList_setIfInBounds]
    omega
theorem wpOp_run {Q : Exit → Act → World → Prop} {i : Nat} {o : Oper} {K : Act → World → Prop} {a : Act} {w w' : World} {v : Value} (hi : ops[i]? = some o) (hg : o.guard = none) (hr : (execOp a.eval o).run P w = .ok (.value v) w') (hK : K (a.put o.dst v) w') : wpOp P ops Q i K a w := by
  unfold wpOp
  simp only [hi]
  have hw : Region.wanted o (yielded ops a.tmps) = true := by simp [Region.wanted, hg]
  rw [if_pos hw]
  left
  unfold Oper.wp
  rw [hr]
  exact hK
end
def opsM : Array Oper := #[
  { dst := some 31, op := Op.move (Operand.tmp 4), type := 42, pos := "tsort.go:111", after := #[], guard := none },
  { dst := some 32, op := Op.move (Operand.tmp 5), type := 43, pos := "tsort.go:111", after := #[], guard := none },
  { dst := some 33, op := Op.move (Operand.tmp 6), type := 3, pos := "tsort.go:111", after := #[], guard := none },
  { dst := some 34, op := Op.makeSlice 50 (Operand.tmp 33) (Operand.tmp 33), type := 50, pos := "tsort.go:111", after := #[{ on := 2, ground := Ground.data }, { on := 2, ground := Ground.data }], guard := none },
  { dst := some 35, op := Op.move (Operand.tmp 6), type := 3, pos := "tsort.go:111", after := #[], guard := none },
  { dst := some 36, op := Op.makeSlice 50 (Operand.tmp 35) (Operand.tmp 35), type := 50, pos := "tsort.go:111", after := #[{ on := 4, ground := Ground.data }, { on := 4, ground := Ground.data }], guard := none },
  { dst := some 37, op := Op.move (Operand.tmp 6), type := 3, pos := "tsort.go:111", after := #[], guard := none },
  { dst := some 38, op := Op.makeSlice 51 (Operand.tmp 37) (Operand.tmp 37), type := 51, pos := "tsort.go:111", after := #[{ on := 6, ground := Ground.data }, { on := 6, ground := Ground.data }], guard := none },
  { dst := some 39, op := Op.move (Operand.tmp 6), type := 3, pos := "tsort.go:111", after := #[], guard := none },
  { dst := some 40, op := Op.makeSlice 52 (Operand.tmp 39) (Operand.tmp 39), type := 52, pos := "tsort.go:111", after := #[{ on := 8, ground := Ground.data }, { on := 8, ground := Ground.data }], guard := none },
  { dst := some 41, op := Op.makeMap 53 none, type := 53, pos := "tsort.go:111", after := #[], guard := none },
  { dst := some 42, op := Op.build 55 #[(0, Operand.tmp 31), (1, Operand.tmp 32), (2, Operand.tmp 34), (3, Operand.tmp 36), (4, Operand.tmp 38), (5, Operand.tmp 40), (6, Operand.tmp 41)], type := 55, pos := "tsort.go:111", after := #[{ on := 0, ground := Ground.data }, { on := 1, ground := Ground.data }, { on := 3, ground := Ground.data }, { on := 5, ground := Ground.data }, { on := 7, ground := Ground.data }, { on := 9, ground := Ground.data }, { on := 10, ground := Ground.data }], guard := none },
  { dst := some 43, op := Op.box 55 (Operand.tmp 42), type := 49, pos := "tsort.go:111", after := #[{ on := 11, ground := Ground.data }], guard := none },
  { dst := some 7, op := Op.assign (Operand.tmp 43), type := 49, pos := "tsort.go:111", after := #[{ on := 12, ground := Ground.data }, { on := 0, ground := Ground.phase }, { on := 1, ground := Ground.phase }, { on := 2, ground := Ground.phase }, { on := 3, ground := Ground.phase }, { on := 4, ground := Ground.phase }, { on := 5, ground := Ground.phase }, { on := 6, ground := Ground.phase }, { on := 7, ground := Ground.phase }, { on := 8, ground := Ground.phase }, { on := 9, ground := Ground.phase }, { on := 10, ground := Ground.phase }, { on := 11, ground := Ground.phase }, { on := 12, ground := Ground.phase }], guard := none }]
/-- what holds while some of the operations have come up -/
structure Mk (n S : Nat) (OI ON OD OM : Obj) (P4 V5 : Value) (s0 : Nat → Value) (w1 : World) (β : Nat → Nat) (L : Nat → Bool) (s : Nat → Value) (w : World) : Prop where
  rest : ∀ k, ¬ (31 ≤ k ∧ k ≤ 43) → k ≠ 7 → s k = s0 k
  m0 : L 0 = true → s 31 = P4
  m1 : L 1 = true → s 32 = V5
  m2 : L 2 = true → s 33 = (.int .i64 (n : Nat))
  m4 : L 4 = true → s 35 = (.int .i64 (n : Nat))
  m6 : L 6 = true → s 37 = (.int .i64 (n : Nat))
  m8 : L 8 = true → s 39 = (.int .i64 (n : Nat))
  a3 : L 3 = true → s 34 = .slice (some ⟨β 3, 0, none⟩) n n ∧ w.heap[β 3]? = some OI ∧ S ≤ β 3 ∧ β 3 < w.heap.size
  a5 : L 5 = true → s 36 = .slice (some ⟨β 5, 0, none⟩) n n ∧ w.heap[β 5]? = some OI ∧ S ≤ β 5 ∧ β 5 < w.heap.size
  a7 : L 7 = true → s 38 = .slice (some ⟨β 7, 0, none⟩) n n ∧ w.heap[β 7]? = some ON ∧ S ≤ β 7 ∧ β 7 < w.heap.size
  a9 : L 9 = true → s 40 = .slice (some ⟨β 9, 0, none⟩) n n ∧ w.heap[β 9]? = some OD ∧ S ≤ β 9 ∧ β 9 < w.heap.size
  a10 : L 10 = true → s 41 = .map (some (β 10)) ∧ w.heap[β 10]? = some OM ∧ S ≤ β 10 ∧ β 10 < w.heap.size
  d3_5 : L 3 = true → L 5 = true → β 3 ≠ β 5
  d3_7 : L 3 = true → L 7 = true → β 3 ≠ β 7
  d3_9 : L 3 = true → L 9 = true → β 3 ≠ β 9
  d3_10 : L 3 = true → L 10 = true → β 3 ≠ β 10
  d5_7 : L 5 = true → L 7 = true → β 5 ≠ β 7
  d5_9 : L 5 = true → L 9 = true → β 5 ≠ β 9
  d5_10 : L 5 = true → L 10 = true → β 5 ≠ β 10
  d7_9 : L 7 = true → L 9 = true → β 7 ≠ β 9
  d7_10 : L 7 = true → L 10 = true → β 7 ≠ β 10
  d9_10 : L 9 = true → L 10 = true → β 9 ≠ β 10
  b11 : L 11 = true → s 42 = .agg #[P4, V5, .slice (some ⟨β 3, 0, none⟩) n n, .slice (some ⟨β 5, 0, none⟩) n n, .slice (some ⟨β 7, 0, none⟩) n n, .slice (some ⟨β 9, 0, none⟩) n n, .map (some (β 10))]
  p11 : L 11 = true → L 3 = true ∧ L 5 = true ∧ L 7 = true ∧ L 9 = true ∧ L 10 = true
  p12 : L 12 = true → L 11 = true
  b12 : L 12 = true → ∃ sb, s 43 = .pointer (some ⟨sb, 0, none⟩) ∧ w.heap[sb]? = some (.cells #[P4, V5, .slice (some ⟨β 3, 0, none⟩) n n, .slice (some ⟨β 5, 0, none⟩) n n, .slice (some ⟨β 7, 0, none⟩) n n, .slice (some ⟨β 9, 0, none⟩) n n, .map (some (β 10))] 55 (0, 0)) ∧ S ≤ sb ∧ sb < w.heap.size ∧ β 3 ≠ sb ∧ β 5 ≠ sb ∧ β 7 ≠ sb ∧ β 9 ≠ sb ∧ β 10 ≠ sb
  p13 : L 13 = true → L 12 = true
  b13 : L 13 = true → s 7 = s 43
  below : Below S w1 w
  size : S ≤ w.heap.size
theorem Mk.step0 {n S : Nat} {OI ON OD OM : Obj} {P4 V5 : Value} {s0 : Nat → Value} {w1 : World} {β : Nat → Nat} {L : Nat → Bool} {s : Nat → Value} {w : World} (h : Mk n S OI ON OD OM P4 V5 s0 w1 β L s w) : Mk n S OI ON OD OM P4 V5 s0 w1 β (fun j => L j || j == 0) (fun k => if k = 31 then P4 else s k) w := by
  have hr : ∀ k, ¬ (31 ≤ k ∧ k ≤ 43) → k ≠ 7 → (if k = 31 then P4 else s k) = s0 k := fun k h1 h2 => by rw [if_neg (by omega)]; exact h.rest k h1 h2
  refine ⟨hr, (fun _ => by simp), (by simpa using h.m1), (by simpa using h.m2), (by simpa using h.m4), (by simpa using h.m6), (by simpa using h.m8), (by simpa using h.a3), (by simpa using h.a5), (by simpa using h.a7), (by simpa using h.a9), (by simpa using h.a10), (by simpa using h.d3_5), (by simpa using h.d3_7), (by simpa using h.d3_9), (by simpa using h.d3_10), (by simpa using h.d5_7), (by simpa using h.d5_9), (by simpa using h.d5_10), (by simpa using h.d7_9), (by simpa using h.d7_10), (by simpa using h.d9_10), (by simpa using h.b11), (by simpa using h.p11), (by simpa using h.p12), (by simpa using h.b12), (by simpa using h.p13), (by simpa using h.b13), h.below, h.size⟩
theorem Mk.step1 {n S : Nat} {OI ON OD OM : Obj} {P4 V5 : Value} {s0 : Nat → Value} {w1 : World} {β : Nat → Nat} {L : Nat → Bool} {s : Nat → Value} {w : World} (h : Mk n S OI ON OD OM P4 V5 s0 w1 β L s w) : Mk n S OI ON OD OM P4 V5 s0 w1 β (fun j => L j || j == 1) (fun k => if k = 32 then V5 else s k) w := by
  have hr : ∀ k, ¬ (31 ≤ k ∧ k ≤ 43) → k ≠ 7 → (if k = 32 then V5 else s k) = s0 k := fun k h1 h2 => by rw [if_neg (by omega)]; exact h.rest k h1 h2
  refine ⟨hr, (by simpa using h.m0), (fun _ => by simp), (by simpa using h.m2), (by simpa using h.m4), (by simpa using h.m6), (by simpa using h.m8), (by simpa using h.a3), (by simpa using h.a5), (by simpa using h.a7), (by simpa using h.a9), (by simpa using h.a10), (by simpa using h.d3_5), (by simpa using h.d3_7), (by simpa using h.d3_9), (by simpa using h.d3_10), (by simpa using h.d5_7), (by simpa using h.d5_9), (by simpa using h.d5_10), (by simpa using h.d7_9), (by simpa using h.d7_10), (by simpa using h.d9_10), (by simpa using h.b11), (by simpa using h.p11), (by simpa using h.p12), (by simpa using h.b12), (by simpa using h.p13), (by simpa using h.b13), h.below, h.size⟩
theorem Mk.step2 {n S : Nat} {OI ON OD OM : Obj} {P4 V5 : Value} {s0 : Nat → Value} {w1 : World} {β : Nat → Nat} {L : Nat → Bool} {s : Nat → Value} {w : World} (h : Mk n S OI ON OD OM P4 V5 s0 w1 β L s w) : Mk n S OI ON OD OM P4 V5 s0 w1 β (fun j => L j || j == 2) (fun k => if k = 33 then (.int .i64 (n : Nat)) else s k) w := by
  have hr : ∀ k, ¬ (31 ≤ k ∧ k ≤ 43) → k ≠ 7 → (if k = 33 then (.int .i64 (n : Nat)) else s k) = s0 k := fun k h1 h2 => by rw [if_neg (by omega)]; exact h.rest k h1 h2
  refine ⟨hr, (by simpa using h.m0), (by simpa using h.m1), (fun _ => by simp), (by simpa using h.m4), (by simpa using h.m6), (by simpa using h.m8), (by simpa using h.a3), (by simpa using h.a5), (by simpa using h.a7), (by simpa using h.a9), (by simpa using h.a10), (by simpa using h.d3_5), (by simpa using h.d3_7), (by simpa using h.d3_9), (by simpa using h.d3_10), (by simpa using h.d5_7), (by simpa using h.d5_9), (by simpa using h.d5_10), (by simpa using h.d7_9), (by simpa using h.d7_10), (by simpa using h.d9_10), (by simpa using h.b11), (by simpa using h.p11), (by simpa using h.p12), (by simpa using h.b12), (by simpa using h.p13), (by simpa using h.b13), h.below, h.size⟩
theorem Mk.step4 {n S : Nat} {OI ON OD OM : Obj} {P4 V5 : Value} {s0 : Nat → Value} {w1 : World} {β : Nat → Nat} {L : Nat → Bool} {s : Nat → Value} {w : World} (h : Mk n S OI ON OD OM P4 V5 s0 w1 β L s w) : Mk n S OI ON OD OM P4 V5 s0 w1 β (fun j => L j || j == 4) (fun k => if k = 35 then (.int .i64 (n : Nat)) else s k) w := by
  have hr : ∀ k, ¬ (31 ≤ k ∧ k ≤ 43) → k ≠ 7 → (if k = 35 then (.int .i64 (n : Nat)) else s k) = s0 k := fun k h1 h2 => by rw [if_neg (by omega)]; exact h.rest k h1 h2
  refine ⟨hr, (by simpa using h.m0), (by simpa using h.m1), (by simpa using h.m2), (fun _ => by simp), (by simpa using h.m6), (by simpa using h.m8), (by simpa using h.a3), (by simpa using h.a5), (by simpa using h.a7), (by simpa using h.a9), (by simpa using h.a10), (by simpa using h.d3_5), (by simpa using h.d3_7), (by simpa using h.d3_9), (by simpa using h.d3_10), (by simpa using h.d5_7), (by simpa using h.d5_9), (by simpa using h.d5_10), (by simpa using h.d7_9), (by simpa using h.d7_10), (by simpa using h.d9_10), (by simpa using h.b11), (by simpa using h.p11), (by simpa using h.p12), (by simpa using h.b12), (by simpa using h.p13), (by simpa using h.b13), h.below, h.size⟩
theorem Mk.step6 {n S : Nat} {OI ON OD OM : Obj} {P4 V5 : Value} {s0 : Nat → Value} {w1 : World} {β : Nat → Nat} {L : Nat → Bool} {s : Nat → Value} {w : World} (h : Mk n S OI ON OD OM P4 V5 s0 w1 β L s w) : Mk n S OI ON OD OM P4 V5 s0 w1 β (fun j => L j || j == 6) (fun k => if k = 37 then (.int .i64 (n : Nat)) else s k) w := by
  have hr : ∀ k, ¬ (31 ≤ k ∧ k ≤ 43) → k ≠ 7 → (if k = 37 then (.int .i64 (n : Nat)) else s k) = s0 k := fun k h1 h2 => by rw [if_neg (by omega)]; exact h.rest k h1 h2
  refine ⟨hr, (by simpa using h.m0), (by simpa using h.m1), (by simpa using h.m2), (by simpa using h.m4), (fun _ => by simp), (by simpa using h.m8), (by simpa using h.a3), (by simpa using h.a5), (by simpa using h.a7), (by simpa using h.a9), (by simpa using h.a10), (by simpa using h.d3_5), (by simpa using h.d3_7), (by simpa using h.d3_9), (by simpa using h.d3_10), (by simpa using h.d5_7), (by simpa using h.d5_9), (by simpa using h.d5_10), (by simpa using h.d7_9), (by simpa using h.d7_10), (by simpa using h.d9_10), (by simpa using h.b11), (by simpa using h.p11), (by simpa using h.p12), (by simpa using h.b12), (by simpa using h.p13), (by simpa using h.b13), h.below, h.size⟩
theorem Mk.step8 {n S : Nat} {OI ON OD OM : Obj} {P4 V5 : Value} {s0 : Nat → Value} {w1 : World} {β : Nat → Nat} {L : Nat → Bool} {s : Nat → Value} {w : World} (h : Mk n S OI ON OD OM P4 V5 s0 w1 β L s w) : Mk n S OI ON OD OM P4 V5 s0 w1 β (fun j => L j || j == 8) (fun k => if k = 39 then (.int .i64 (n : Nat)) else s k) w := by
  have hr : ∀ k, ¬ (31 ≤ k ∧ k ≤ 43) → k ≠ 7 → (if k = 39 then (.int .i64 (n : Nat)) else s k) = s0 k := fun k h1 h2 => by rw [if_neg (by omega)]; exact h.rest k h1 h2
  refine ⟨hr, (by simpa using h.m0), (by simpa using h.m1), (by simpa using h.m2), (by simpa using h.m4), (by simpa using h.m6), (fun _ => by simp), (by simpa using h.a3), (by simpa using h.a5), (by simpa using h.a7), (by simpa using h.a9), (by simpa using h.a10), (by simpa using h.d3_5), (by simpa using h.d3_7), (by simpa using h.d3_9), (by simpa using h.d3_10), (by simpa using h.d5_7), (by simpa using h.d5_9), (by simpa using h.d5_10), (by simpa using h.d7_9), (by simpa using h.d7_10), (by simpa using h.d9_10), (by simpa using h.b11), (by simpa using h.p11), (by simpa using h.p12), (by simpa using h.b12), (by simpa using h.p13), (by simpa using h.b13), h.below, h.size⟩
theorem Mk.step3 {n S : Nat} {OI ON OD OM : Obj} {P4 V5 : Value} {s0 : Nat → Value} {w1 : World} {β : Nat → Nat} {L : Nat → Bool} {s : Nat → Value} {w : World} (h : Mk n S OI ON OD OM P4 V5 s0 w1 β L s w) (hi : L 3 = false) : Mk n S OI ON OD OM P4 V5 s0 w1 (fun k => if k = 3 then w.heap.size else β k) (fun j => L j || j == 3) (fun k => if k = 34 then .slice (some ⟨w.heap.size, 0, none⟩) n n else s k) (w.alloc OI) := by
  have hr : ∀ k, ¬ (31 ≤ k ∧ k ≤ 43) → k ≠ 7 → (if k = 34 then .slice (some ⟨w.heap.size, 0, none⟩) n n else s k) = s0 k := fun k h1 h2 => by rw [if_neg (by omega)]; exact h.rest k h1 h2
  refine ⟨hr, (by simpa using h.m0), (by simpa using h.m1), (by simpa using h.m2), (by simpa using h.m4), (by simpa using h.m6), (by simpa using h.m8), (fun _ => ⟨by simp, by simpa using heap_alloc_new w _, by simpa using h.size, by simp⟩), (fun hj => by
    obtain ⟨h1, h2, h3, h4⟩ := h.a5 (by simpa using hj)
    exact ⟨by simpa using h1, by simpa using (Below.heap_alloc w _ (β 5) h4).trans h2, by simpa using h3, by simp; omega⟩), (fun hj => by
    obtain ⟨h1, h2, h3, h4⟩ := h.a7 (by simpa using hj)
    exact ⟨by simpa using h1, by simpa using (Below.heap_alloc w _ (β 7) h4).trans h2, by simpa using h3, by simp; omega⟩), (fun hj => by
    obtain ⟨h1, h2, h3, h4⟩ := h.a9 (by simpa using hj)
    exact ⟨by simpa using h1, by simpa using (Below.heap_alloc w _ (β 9) h4).trans h2, by simpa using h3, by simp; omega⟩), (fun hj => by
    obtain ⟨h1, h2, h3, h4⟩ := h.a10 (by simpa using hj)
    exact ⟨by simpa using h1, by simpa using (Below.heap_alloc w _ (β 10) h4).trans h2, by simpa using h3, by simp; omega⟩), (fun _ hy => by
    have := (h.a5 (by simpa using hy)).2.2.2
    simp
    omega), (fun _ hy => by
    have := (h.a7 (by simpa using hy)).2.2.2
    simp
    omega), (fun _ hy => by
    have := (h.a9 (by simpa using hy)).2.2.2
    simp
    omega), (fun _ hy => by
    have := (h.a10 (by simpa using hy)).2.2.2
    simp
    omega), (by simpa using h.d5_7), (by simpa using h.d5_9), (by simpa using h.d5_10), (by simpa using h.d7_9), (by simpa using h.d7_10), (by simpa using h.d9_10), (fun h11 => by
    have := (h.p11 (by simpa using h11)).1
    rw [hi] at this
    cases this), (fun h11 => by
    have := (h.p11 (by simpa using h11)).1
    rw [hi] at this
    cases this), (by simpa using h.p12), (fun h12 => by
    have := (h.p11 (h.p12 (by simpa using h12))).1
    rw [hi] at this
    cases this), (by simpa using h.p13), (fun h13 => by
    have := (h.p11 (h.p12 (h.p13 (by simpa using h13)))).1
    rw [hi] at this
    cases this), h.below.alloc h.size _, by have := h.size; simp; omega⟩
theorem Mk.step5 {n S : Nat} {OI ON OD OM : Obj} {P4 V5 : Value} {s0 : Nat → Value} {w1 : World} {β : Nat → Nat} {L : Nat → Bool} {s : Nat → Value} {w : World} (h : Mk n S OI ON OD OM P4 V5 s0 w1 β L s w) (hi : L 5 = false) : Mk n S OI ON OD OM P4 V5 s0 w1 (fun k => if k = 5 then w.heap.size else β k) (fun j => L j || j == 5) (fun k => if k = 36 then .slice (some ⟨w.heap.size, 0, none⟩) n n else s k) (w.alloc OI) := by
  have hr : ∀ k, ¬ (31 ≤ k ∧ k ≤ 43) → k ≠ 7 → (if k = 36 then .slice (some ⟨w.heap.size, 0, none⟩) n n else s k) = s0 k := fun k h1 h2 => by rw [if_neg (by omega)]; exact h.rest k h1 h2
  refine ⟨hr, (by simpa using h.m0), (by simpa using h.m1), (by simpa using h.m2), (by simpa using h.m4), (by simpa using h.m6), (by simpa using h.m8), (fun hj => by
    obtain ⟨h1, h2, h3, h4⟩ := h.a3 (by simpa using hj)
    exact ⟨by simpa using h1, by simpa using (Below.heap_alloc w _ (β 3) h4).trans h2, by simpa using h3, by simp; omega⟩), (fun _ => ⟨by simp, by simpa using heap_alloc_new w _, by simpa using h.size, by simp⟩), (fun hj => by
    obtain ⟨h1, h2, h3, h4⟩ := h.a7 (by simpa using hj)
    exact ⟨by simpa using h1, by simpa using (Below.heap_alloc w _ (β 7) h4).trans h2, by simpa using h3, by simp; omega⟩), (fun hj => by
    obtain ⟨h1, h2, h3, h4⟩ := h.a9 (by simpa using hj)
    exact ⟨by simpa using h1, by simpa using (Below.heap_alloc w _ (β 9) h4).trans h2, by simpa using h3, by simp; omega⟩), (fun hj => by
    obtain ⟨h1, h2, h3, h4⟩ := h.a10 (by simpa using hj)
    exact ⟨by simpa using h1, by simpa using (Below.heap_alloc w _ (β 10) h4).trans h2, by simpa using h3, by simp; omega⟩), (fun hx _ => by
    have := (h.a3 (by simpa using hx)).2.2.2
    simp
    omega), (by simpa using h.d3_7), (by simpa using h.d3_9), (by simpa using h.d3_10), (fun _ hy => by
    have := (h.a7 (by simpa using hy)).2.2.2
    simp
    omega), (fun _ hy => by
    have := (h.a9 (by simpa using hy)).2.2.2
    simp
    omega), (fun _ hy => by
    have := (h.a10 (by simpa using hy)).2.2.2
    simp
    omega), (by simpa using h.d7_9), (by simpa using h.d7_10), (by simpa using h.d9_10), (fun h11 => by
    have := (h.p11 (by simpa using h11)).2.1
    rw [hi] at this
    cases this), (fun h11 => by
    have := (h.p11 (by simpa using h11)).2.1
    rw [hi] at this
    cases this), (by simpa using h.p12), (fun h12 => by
    have := (h.p11 (h.p12 (by simpa using h12))).2.1
    rw [hi] at this
    cases this), (by simpa using h.p13), (fun h13 => by
    have := (h.p11 (h.p12 (h.p13 (by simpa using h13)))).2.1
    rw [hi] at this
    cases this), h.below.alloc h.size _, by have := h.size; simp; omega⟩
theorem Mk.step7 {n S : Nat} {OI ON OD OM : Obj} {P4 V5 : Value} {s0 : Nat → Value} {w1 : World} {β : Nat → Nat} {L : Nat → Bool} {s : Nat → Value} {w : World} (h : Mk n S OI ON OD OM P4 V5 s0 w1 β L s w) (hi : L 7 = false) : Mk n S OI ON OD OM P4 V5 s0 w1 (fun k => if k = 7 then w.heap.size else β k) (fun j => L j || j == 7) (fun k => if k = 38 then .slice (some ⟨w.heap.size, 0, none⟩) n n else s k) (w.alloc ON) := by
  have hr : ∀ k, ¬ (31 ≤ k ∧ k ≤ 43) → k ≠ 7 → (if k = 38 then .slice (some ⟨w.heap.size, 0, none⟩) n n else s k) = s0 k := fun k h1 h2 => by rw [if_neg (by omega)]; exact h.rest k h1 h2
  refine ⟨hr, (by simpa using h.m0), (by simpa using h.m1), (by simpa using h.m2), (by simpa using h.m4), (by simpa using h.m6), (by simpa using h.m8), (fun hj => by
    obtain ⟨h1, h2, h3, h4⟩ := h.a3 (by simpa using hj)
    exact ⟨by simpa using h1, by simpa using (Below.heap_alloc w _ (β 3) h4).trans h2, by simpa using h3, by simp; omega⟩), (fun hj => by
    obtain ⟨h1, h2, h3, h4⟩ := h.a5 (by simpa using hj)
    exact ⟨by simpa using h1, by simpa using (Below.heap_alloc w _ (β 5) h4).trans h2, by simpa using h3, by simp; omega⟩), (fun _ => ⟨by simp, by simpa using heap_alloc_new w _, by simpa using h.size, by simp⟩), (fun hj => by
    obtain ⟨h1, h2, h3, h4⟩ := h.a9 (by simpa using hj)
    exact ⟨by simpa using h1, by simpa using (Below.heap_alloc w _ (β 9) h4).trans h2, by simpa using h3, by simp; omega⟩), (fun hj => by
    obtain ⟨h1, h2, h3, h4⟩ := h.a10 (by simpa using hj)
    exact ⟨by simpa using h1, by simpa using (Below.heap_alloc w _ (β 10) h4).trans h2, by simpa using h3, by simp; omega⟩), (by simpa using h.d3_5), (fun hx _ => by
    have := (h.a3 (by simpa using hx)).2.2.2
    simp
    omega), (by simpa using h.d3_9), (by simpa using h.d3_10), (fun hx _ => by
    have := (h.a5 (by simpa using hx)).2.2.2
    simp
    omega), (by simpa using h.d5_9), (by simpa using h.d5_10), (fun _ hy => by
    have := (h.a9 (by simpa using hy)).2.2.2
    simp
    omega), (fun _ hy => by
    have := (h.a10 (by simpa using hy)).2.2.2
    simp
    omega), (by simpa using h.d9_10), (fun h11 => by
    have := (h.p11 (by simpa using h11)).2.2.1
    rw [hi] at this
    cases this), (fun h11 => by
    have := (h.p11 (by simpa using h11)).2.2.1
    rw [hi] at this
    cases this), (by simpa using h.p12), (fun h12 => by
    have := (h.p11 (h.p12 (by simpa using h12))).2.2.1
    rw [hi] at this
    cases this), (by simpa using h.p13), (fun h13 => by
    have := (h.p11 (h.p12 (h.p13 (by simpa using h13)))).2.2.1
    rw [hi] at this
    cases this), h.below.alloc h.size _, by have := h.size; simp; omega⟩
theorem Mk.step9 {n S : Nat} {OI ON OD OM : Obj} {P4 V5 : Value} {s0 : Nat → Value} {w1 : World} {β : Nat → Nat} {L : Nat → Bool} {s : Nat → Value} {w : World} (h : Mk n S OI ON OD OM P4 V5 s0 w1 β L s w) (hi : L 9 = false) : Mk n S OI ON OD OM P4 V5 s0 w1 (fun k => if k = 9 then w.heap.size else β k) (fun j => L j || j == 9) (fun k => if k = 40 then .slice (some ⟨w.heap.size, 0, none⟩) n n else s k) (w.alloc OD) := by
  have hr : ∀ k, ¬ (31 ≤ k ∧ k ≤ 43) → k ≠ 7 → (if k = 40 then .slice (some ⟨w.heap.size, 0, none⟩) n n else s k) = s0 k := fun k h1 h2 => by rw [if_neg (by omega)]; exact h.rest k h1 h2
  refine ⟨hr, (by simpa using h.m0), (by simpa using h.m1), (by simpa using h.m2), (by simpa using h.m4), (by simpa using h.m6), (by simpa using h.m8), (fun hj => by
    obtain ⟨h1, h2, h3, h4⟩ := h.a3 (by simpa using hj)
    exact ⟨by simpa using h1, by simpa using (Below.heap_alloc w _ (β 3) h4).trans h2, by simpa using h3, by simp; omega⟩), (fun hj => by
    obtain ⟨h1, h2, h3, h4⟩ := h.a5 (by simpa using hj)
    exact ⟨by simpa using h1, by simpa using (Below.heap_alloc w _ (β 5) h4).trans h2, by simpa using h3, by simp; omega⟩), (fun hj => by
    obtain ⟨h1, h2, h3, h4⟩ := h.a7 (by simpa using hj)
    exact ⟨by simpa using h1, by simpa using (Below.heap_alloc w _ (β 7) h4).trans h2, by simpa using h3, by simp; omega⟩), (fun _ => ⟨by simp, by simpa using heap_alloc_new w _, by simpa using h.size, by simp⟩), (fun hj => by
    obtain ⟨h1, h2, h3, h4⟩ := h.a10 (by simpa using hj)
    exact ⟨by simpa using h1, by simpa using (Below.heap_alloc w _ (β 10) h4).trans h2, by simpa using h3, by simp; omega⟩), (by simpa using h.d3_5), (by simpa using h.d3_7), (fun hx _ => by
    have := (h.a3 (by simpa using hx)).2.2.2
    simp
    omega), (by simpa using h.d3_10), (by simpa using h.d5_7), (fun hx _ => by
    have := (h.a5 (by simpa using hx)).2.2.2
    simp
    omega), (by simpa using h.d5_10), (fun hx _ => by
    have := (h.a7 (by simpa using hx)).2.2.2
    simp
    omega), (by simpa using h.d7_10), (fun _ hy => by
    have := (h.a10 (by simpa using hy)).2.2.2
    simp
    omega), (fun h11 => by
    have := (h.p11 (by simpa using h11)).2.2.2.1
    rw [hi] at this
    cases this), (fun h11 => by
    have := (h.p11 (by simpa using h11)).2.2.2.1
    rw [hi] at this
    cases this), (by simpa using h.p12), (fun h12 => by
    have := (h.p11 (h.p12 (by simpa using h12))).2.2.2.1
    rw [hi] at this
    cases this), (by simpa using h.p13), (fun h13 => by
    have := (h.p11 (h.p12 (h.p13 (by simpa using h13)))).2.2.2.1
    rw [hi] at this
    cases this), h.below.alloc h.size _, by have := h.size; simp; omega⟩
theorem Mk.step10 {n S : Nat} {OI ON OD OM : Obj} {P4 V5 : Value} {s0 : Nat → Value} {w1 : World} {β : Nat → Nat} {L : Nat → Bool} {s : Nat → Value} {w : World} (h : Mk n S OI ON OD OM P4 V5 s0 w1 β L s w) (hi : L 10 = false) : Mk n S OI ON OD OM P4 V5 s0 w1 (fun k => if k = 10 then w.heap.size else β k) (fun j => L j || j == 10) (fun k => if k = 41 then .map (some (w.heap.size)) else s k) (w.alloc OM) := by
  have hr : ∀ k, ¬ (31 ≤ k ∧ k ≤ 43) → k ≠ 7 → (if k = 41 then .map (some (w.heap.size)) else s k) = s0 k := fun k h1 h2 => by rw [if_neg (by omega)]; exact h.rest k h1 h2
  refine ⟨hr, (by simpa using h.m0), (by simpa using h.m1), (by simpa using h.m2), (by simpa using h.m4), (by simpa using h.m6), (by simpa using h.m8), (fun hj => by
    obtain ⟨h1, h2, h3, h4⟩ := h.a3 (by simpa using hj)
    exact ⟨by simpa using h1, by simpa using (Below.heap_alloc w _ (β 3) h4).trans h2, by simpa using h3, by simp; omega⟩), (fun hj => by
    obtain ⟨h1, h2, h3, h4⟩ := h.a5 (by simpa using hj)
    exact ⟨by simpa using h1, by simpa using (Below.heap_alloc w _ (β 5) h4).trans h2, by simpa using h3, by simp; omega⟩), (fun hj => by
    obtain ⟨h1, h2, h3, h4⟩ := h.a7 (by simpa using hj)
    exact ⟨by simpa using h1, by simpa using (Below.heap_alloc w _ (β 7) h4).trans h2, by simpa using h3, by simp; omega⟩), (fun hj => by
    obtain ⟨h1, h2, h3, h4⟩ := h.a9 (by simpa using hj)
    exact ⟨by simpa using h1, by simpa using (Below.heap_alloc w _ (β 9) h4).trans h2, by simpa using h3, by simp; omega⟩), (fun _ => ⟨by simp, by simpa using heap_alloc_new w _, by simpa using h.size, by simp⟩), (by simpa using h.d3_5), (by simpa using h.d3_7), (by simpa using h.d3_9), (fun hx _ => by
    have := (h.a3 (by simpa using hx)).2.2.2
    simp
    omega), (by simpa using h.d5_7), (by simpa using h.d5_9), (fun hx _ => by
    have := (h.a5 (by simpa using hx)).2.2.2
    simp
    omega), (by simpa using h.d7_9), (fun hx _ => by
    have := (h.a7 (by simpa using hx)).2.2.2
    simp
    omega), (fun hx _ => by
    have := (h.a9 (by simpa using hx)).2.2.2
    simp
    omega), (fun h11 => by
    have := (h.p11 (by simpa using h11)).2.2.2.2
    rw [hi] at this
    cases this), (fun h11 => by
    have := (h.p11 (by simpa using h11)).2.2.2.2
    rw [hi] at this
    cases this), (by simpa using h.p12), (fun h12 => by
    have := (h.p11 (h.p12 (by simpa using h12))).2.2.2.2
    rw [hi] at this
    cases this), (by simpa using h.p13), (fun h13 => by
    have := (h.p11 (h.p12 (h.p13 (by simpa using h13)))).2.2.2.2
    rw [hi] at this
    cases this), h.below.alloc h.size _, by have := h.size; simp; omega⟩
theorem Mk.step11 {n S : Nat} {OI ON OD OM : Obj} {P4 V5 : Value} {s0 : Nat → Value} {w1 : World} {β : Nat → Nat} {L : Nat → Bool} {s : Nat → Value} {w : World} (h : Mk n S OI ON OD OM P4 V5 s0 w1 β L s w) (hd : L 3 = true ∧ L 5 = true ∧ L 7 = true ∧ L 9 = true ∧ L 10 = true) : Mk n S OI ON OD OM P4 V5 s0 w1 β (fun j => L j || j == 11) (fun k => if k = 42 then .agg #[P4, V5, .slice (some ⟨β 3, 0, none⟩) n n, .slice (some ⟨β 5, 0, none⟩) n n, .slice (some ⟨β 7, 0, none⟩) n n, .slice (some ⟨β 9, 0, none⟩) n n, .map (some (β 10))] else s k) w := by
  have hr : ∀ k, ¬ (31 ≤ k ∧ k ≤ 43) → k ≠ 7 → (if k = 42 then .agg #[P4, V5, .slice (some ⟨β 3, 0, none⟩) n n, .slice (some ⟨β 5, 0, none⟩) n n, .slice (some ⟨β 7, 0, none⟩) n n, .slice (some ⟨β 9, 0, none⟩) n n, .map (some (β 10))] else s k) = s0 k := fun k h1 h2 => by rw [if_neg (by omega)]; exact h.rest k h1 h2
  refine ⟨hr, (by simpa using h.m0), (by simpa using h.m1), (by simpa using h.m2), (by simpa using h.m4), (by simpa using h.m6), (by simpa using h.m8), (by simpa using h.a3), (by simpa using h.a5), (by simpa using h.a7), (by simpa using h.a9), (by simpa using h.a10), (by simpa using h.d3_5), (by simpa using h.d3_7), (by simpa using h.d3_9), (by simpa using h.d3_10), (by simpa using h.d5_7), (by simpa using h.d5_9), (by simpa using h.d5_10), (by simpa using h.d7_9), (by simpa using h.d7_10), (by simpa using h.d9_10), (fun _ => by simp), (fun _ => by simpa using hd), (fun _ => by simp), (by simpa using h.b12), (by simpa using h.p13), (by simpa using h.b13), h.below, h.size⟩
theorem Mk.step12 {n S : Nat} {OI ON OD OM : Obj} {P4 V5 : Value} {s0 : Nat → Value} {w1 : World} {β : Nat → Nat} {L : Nat → Bool} {s : Nat → Value} {w : World} (h : Mk n S OI ON OD OM P4 V5 s0 w1 β L s w) (h11 : L 11 = true) (hi : L 12 = false) : Mk n S OI ON OD OM P4 V5 s0 w1 β (fun j => L j || j == 12) (fun k => if k = 43 then .pointer (some ⟨w.heap.size, 0, none⟩) else s k) (w.alloc (.cells #[P4, V5, .slice (some ⟨β 3, 0, none⟩) n n, .slice (some ⟨β 5, 0, none⟩) n n, .slice (some ⟨β 7, 0, none⟩) n n, .slice (some ⟨β 9, 0, none⟩) n n, .map (some (β 10))] 55)) := by
  have hr : ∀ k, ¬ (31 ≤ k ∧ k ≤ 43) → k ≠ 7 → (if k = 43 then Value.pointer (some ⟨w.heap.size, 0, none⟩) else s k) = s0 k := fun k h1 h2 => by rw [if_neg (by omega)]; exact h.rest k h1 h2
  refine ⟨hr, (by simpa using h.m0), (by simpa using h.m1), (by simpa using h.m2), (by simpa using h.m4), (by simpa using h.m6), (by simpa using h.m8), (fun hj => by
    obtain ⟨h1, h2, h3, h4⟩ := h.a3 (by simpa using hj)
    exact ⟨by simpa using h1, by simpa using (Below.heap_alloc w _ (β 3) h4).trans h2, by simpa using h3, by simp; omega⟩), (fun hj => by
    obtain ⟨h1, h2, h3, h4⟩ := h.a5 (by simpa using hj)
    exact ⟨by simpa using h1, by simpa using (Below.heap_alloc w _ (β 5) h4).trans h2, by simpa using h3, by simp; omega⟩), (fun hj => by
    obtain ⟨h1, h2, h3, h4⟩ := h.a7 (by simpa using hj)
    exact ⟨by simpa using h1, by simpa using (Below.heap_alloc w _ (β 7) h4).trans h2, by simpa using h3, by simp; omega⟩), (fun hj => by
    obtain ⟨h1, h2, h3, h4⟩ := h.a9 (by simpa using hj)
    exact ⟨by simpa using h1, by simpa using (Below.heap_alloc w _ (β 9) h4).trans h2, by simpa using h3, by simp; omega⟩), (fun hj => by
    obtain ⟨h1, h2, h3, h4⟩ := h.a10 (by simpa using hj)
    exact ⟨by simpa using h1, by simpa using (Below.heap_alloc w _ (β 10) h4).trans h2, by simpa using h3, by simp; omega⟩), (by simpa using h.d3_5), (by simpa using h.d3_7), (by simpa using h.d3_9), (by simpa using h.d3_10), (by simpa using h.d5_7), (by simpa using h.d5_9), (by simpa using h.d5_10), (by simpa using h.d7_9), (by simpa using h.d7_10), (by simpa using h.d9_10), (by simpa using h.b11), (by simpa using h.p11), (fun _ => by simpa using h11), (fun _ => by
    obtain ⟨q3, q5, q7, q9, q10⟩ := h.p11 h11
    have l3 := (h.a3 q3).2.2.2
    have l5 := (h.a5 q5).2.2.2
    have l7 := (h.a7 q7).2.2.2
    have l9 := (h.a9 q9).2.2.2
    have l10 := (h.a10 q10).2.2.2
    exact ⟨w.heap.size, by simp, heap_alloc_new w _, h.size, by simp, by omega, by omega, by omega, by omega, by omega⟩), (fun _ => by simp), (fun h13 => by
    have := h.p13 (by simpa using h13)
    rw [hi] at this
    cases this), h.below.alloc h.size _, by have := h.size; simp; omega⟩
theorem Mk.step13 {n S : Nat} {OI ON OD OM : Obj} {P4 V5 : Value} {s0 : Nat → Value} {w1 : World} {β : Nat → Nat} {L : Nat → Bool} {s : Nat → Value} {w : World} (h : Mk n S OI ON OD OM P4 V5 s0 w1 β L s w) (h12 : L 12 = true) : Mk n S OI ON OD OM P4 V5 s0 w1 β (fun j => L j || j == 13) (fun k => if k = 7 then s 43 else s k) w := by
  have hr : ∀ k, ¬ (31 ≤ k ∧ k ≤ 43) → k ≠ 7 → (if k = 7 then s 43 else s k) = s0 k := fun k h1 h2 => by rw [if_neg h2]; exact h.rest k h1 h2
  refine ⟨hr, (by simpa using h.m0), (by simpa using h.m1), (by simpa using h.m2), (by simpa using h.m4), (by simpa using h.m6), (by simpa using h.m8), (by simpa using h.a3), (by simpa using h.a5), (by simpa using h.a7), (by simpa using h.a9), (by simpa using h.a10), (by simpa using h.d3_5), (by simpa using h.d3_7), (by simpa using h.d3_9), (by simpa using h.d3_10), (by simpa using h.d5_7), (by simpa using h.d5_9), (by simpa using h.d5_10), (by simpa using h.d7_9), (by simpa using h.d7_10), (by simpa using h.d9_10), (by simpa using h.b11), (by simpa using h.p11), (by simpa using h.p12), (by simpa using h.b12), (fun _ => by simpa using h12), (fun _ => by simp), h.below, h.size⟩
theorem getD_put (a : Act) (d : Nat) (v : Value) (hd : d < a.tmps.size) (k : Nat) : (a.put (some d) v).tmps.getD k undef = if k = d then v else a.tmps.getD k undef := by
  show (a.tmps.setIfInBounds d v).getD k undef = _
  by_cases h : k = d
  · subst h; simp [hd]
  · rw [if_neg h]
    simp only [Array.getD_eq_getD_getElem?]
    rw [Array.getElem?_setIfInBounds_ne (by omega)]
theorem getD_put44 (a : Act) (d : Nat) (v : Value) (h : 44 ≤ a.tmps.size) (hd : d < 44) (k : Nat) : (a.put (some d) v).tmps.getD k undef = if k = d then v else a.tmps.getD k undef := getD_put a d v (by omega) k
theorem getD_listed (l : Array Bool) (i : Nat) (hi : i < l.size) (j : Nat) : (l.setIfInBounds i true).getD j false = (l.getD j false || j == i) := by
  by_cases h : j = i
  · subst h; simp [hi]
  · simp only [Array.getD_eq_getD_getElem?]
    rw [Array.getElem?_setIfInBounds_ne (by omega)]
    simp [h]
/-- the invariant over the orders -/
def Inv (a0 : Act) (n : Nat) (OI ON OD : Obj) (P4 V5 : Value) (w1 : World) (listed : Array Bool) (a : Act) (w : World) : Prop :=
  ∃ β s, a.tmps.size = a0.tmps.size ∧ a.defers = a0.defers ∧ (∀ k, a.tmps.getD k undef = s k) ∧ Mk n w1.heap.size OI ON OD (.map #[] 0) P4 V5 (fun k => a0.tmps.getD k undef) w1 β (fun j => listed.getD j false) s w
theorem Inv.put {a0 : Act} {n : Nat} {OI ON OD : Obj} {P4 V5 : Value} {w1 : World} {listed : Array Bool} {a : Act} {w : World} {i d : Nat} {v : Value} {β : Nat → Nat} {s : Nat → Value} (hs : a.tmps.size = a0.tmps.size) (hf : a.defers = a0.defers) (he : ∀ k, a.tmps.getD k undef = s k) (hd : d < a0.tmps.size) (hi : i < listed.size)
    (h : Mk n w1.heap.size OI ON OD (.map #[] 0) P4 V5 (fun k => a0.tmps.getD k undef) w1 β (fun j => listed.getD j false || j == i) (fun k => if k = d then v else s k) w) : Inv a0 n OI ON OD P4 V5 w1 (listed.setIfInBounds i true) (a.put (some d) v) w := by
  refine ⟨β, _, by simp [Act.put, hs], by simp [Act.put, hf], fun k => ?_, by rw [show (fun j => (listed.setIfInBounds i true).getD j false) = fun j => listed.getD j false || j == i from funext fun j => getD_listed listed i hi j]; exact h⟩
  rw [getD_put a d v (by omega), he]
theorem case0 {a0 : Act} {n : Nat} {OI ON OD : Obj} {P4 V5 : Value} {w1 : World} {listed : Array Bool} {a : Act} {w : World} (h4 : a0.tmps.getD 4 undef = P4) (hsz : 44 ≤ a0.tmps.size) (hl : listed.size = 14) (h : Inv a0 n OI ON OD P4 V5 w1 listed a w)
    {Q : Exit → Act → World → Prop} (K : Act → World → Prop) (hK : ∀ a' w', Inv a0 n OI ON OD P4 V5 w1 (listed.setIfInBounds 0 true) a' w' → K a' w') : wpOp Try.prog opsM Q 0 K a w := by
  obtain ⟨β, s, hs, hf, he, hM⟩ := h
  refine wpOp_run (o := opsM[0]) (w' := w) (v := P4) rfl rfl ?_ (hK _ _ (Inv.put (d := 31) hs hf he (by omega) (by omega) hM.step0))
  refine (BigFrame.run_move (.tmp 4) rfl w).trans ?_
  have := hM.rest 4 (by omega) (by omega)
  show Result.ok (Next.value (a.tmps.getD 4 undef)) w = _
  rw [he, this]
  rw [h4]
theorem case1 {a0 : Act} {n : Nat} {OI ON OD : Obj} {P4 V5 : Value} {w1 : World} {listed : Array Bool} {a : Act} {w : World} (h5 : a0.tmps.getD 5 undef = V5) (hsz : 44 ≤ a0.tmps.size) (hl : listed.size = 14) (h : Inv a0 n OI ON OD P4 V5 w1 listed a w)
    {Q : Exit → Act → World → Prop} (K : Act → World → Prop) (hK : ∀ a' w', Inv a0 n OI ON OD P4 V5 w1 (listed.setIfInBounds 1 true) a' w' → K a' w') : wpOp Try.prog opsM Q 1 K a w := by
  obtain ⟨β, s, hs, hf, he, hM⟩ := h
  refine wpOp_run (o := opsM[1]) (w' := w) (v := V5) rfl rfl ?_ (hK _ _ (Inv.put (d := 32) hs hf he (by omega) (by omega) hM.step1))
  refine (BigFrame.run_move (.tmp 5) rfl w).trans ?_
  have := hM.rest 5 (by omega) (by omega)
  show Result.ok (Next.value (a.tmps.getD 5 undef)) w = _
  rw [he, this]
  rw [h5]
theorem case2 {a0 : Act} {n : Nat} {OI ON OD : Obj} {P4 V5 : Value} {w1 : World} {listed : Array Bool} {a : Act} {w : World} (h6 : a0.tmps.getD 6 undef = (.int .i64 (n : Nat))) (hsz : 44 ≤ a0.tmps.size) (hl : listed.size = 14) (h : Inv a0 n OI ON OD P4 V5 w1 listed a w)
    {Q : Exit → Act → World → Prop} (K : Act → World → Prop) (hK : ∀ a' w', Inv a0 n OI ON OD P4 V5 w1 (listed.setIfInBounds 2 true) a' w' → K a' w') : wpOp Try.prog opsM Q 2 K a w := by
  obtain ⟨β, s, hs, hf, he, hM⟩ := h
  refine wpOp_run (o := opsM[2]) (w' := w) (v := (.int .i64 (n : Nat))) rfl rfl ?_ (hK _ _ (Inv.put (d := 33) hs hf he (by omega) (by omega) hM.step2))
  refine (BigFrame.run_move (.tmp 6) rfl w).trans ?_
  have := hM.rest 6 (by omega) (by omega)
  show Result.ok (Next.value (a.tmps.getD 6 undef)) w = _
  rw [he, this]
  rw [h6]
theorem case3 {a0 : Act} {n : Nat} {OI ON OD : Obj} {P4 V5 : Value} {w1 : World} {listed : Array Bool} {a : Act} {w : World} (hsz : 44 ≤ a0.tmps.size) (hl : listed.size = 14) (h : Inv a0 n OI ON OD P4 V5 w1 listed a w) (hi : listed.getD 3 false = false) (hd : listed.getD 2 false = true)
    (hm : ∀ W : World, (Instr.makeSlice 50 (.int .i64 (n : Nat)) (.int .i64 (n : Nat))).run Try.prog W = .ok (.slice (some ⟨W.heap.size, 0, none⟩) n n) (W.alloc OI))
    {Q : Exit → Act → World → Prop} (K : Act → World → Prop) (hK : ∀ a' w', Inv a0 n OI ON OD P4 V5 w1 (listed.setIfInBounds 3 true) a' w' → K a' w') : wpOp Try.prog opsM Q 3 K a w := by
  obtain ⟨β, s, hs, hf, he, hM⟩ := h
  have hx : a.eval (.tmp 33) = .int .i64 (n : Nat) := (he 33).trans (hM.m2 hd)
  refine wpOp_run (o := opsM[3]) (w' := w.alloc OI) (v := .slice (some ⟨w.heap.size, 0, none⟩) n n) rfl rfl ?_ (hK _ _ (Inv.put (d := 34) hs hf he (by omega) (by omega) (hM.step3 hi)))
  simp [opsM, execOp, hx, hm, Result.andThen]
theorem case4 {a0 : Act} {n : Nat} {OI ON OD : Obj} {P4 V5 : Value} {w1 : World} {listed : Array Bool} {a : Act} {w : World} (h6 : a0.tmps.getD 6 undef = (.int .i64 (n : Nat))) (hsz : 44 ≤ a0.tmps.size) (hl : listed.size = 14) (h : Inv a0 n OI ON OD P4 V5 w1 listed a w)
    {Q : Exit → Act → World → Prop} (K : Act → World → Prop) (hK : ∀ a' w', Inv a0 n OI ON OD P4 V5 w1 (listed.setIfInBounds 4 true) a' w' → K a' w') : wpOp Try.prog opsM Q 4 K a w := by
  obtain ⟨β, s, hs, hf, he, hM⟩ := h
  refine wpOp_run (o := opsM[4]) (w' := w) (v := (.int .i64 (n : Nat))) rfl rfl ?_ (hK _ _ (Inv.put (d := 35) hs hf he (by omega) (by omega) hM.step4))
  refine (BigFrame.run_move (.tmp 6) rfl w).trans ?_
  have := hM.rest 6 (by omega) (by omega)
  show Result.ok (Next.value (a.tmps.getD 6 undef)) w = _
  rw [he, this]
  rw [h6]
theorem case5 {a0 : Act} {n : Nat} {OI ON OD : Obj} {P4 V5 : Value} {w1 : World} {listed : Array Bool} {a : Act} {w : World} (hsz : 44 ≤ a0.tmps.size) (hl : listed.size = 14) (h : Inv a0 n OI ON OD P4 V5 w1 listed a w) (hi : listed.getD 5 false = false) (hd : listed.getD 4 false = true)
    (hm : ∀ W : World, (Instr.makeSlice 50 (.int .i64 (n : Nat)) (.int .i64 (n : Nat))).run Try.prog W = .ok (.slice (some ⟨W.heap.size, 0, none⟩) n n) (W.alloc OI))
    {Q : Exit → Act → World → Prop} (K : Act → World → Prop) (hK : ∀ a' w', Inv a0 n OI ON OD P4 V5 w1 (listed.setIfInBounds 5 true) a' w' → K a' w') : wpOp Try.prog opsM Q 5 K a w := by
  obtain ⟨β, s, hs, hf, he, hM⟩ := h
  have hx : a.eval (.tmp 35) = .int .i64 (n : Nat) := (he 35).trans (hM.m4 hd)
  refine wpOp_run (o := opsM[5]) (w' := w.alloc OI) (v := .slice (some ⟨w.heap.size, 0, none⟩) n n) rfl rfl ?_ (hK _ _ (Inv.put (d := 36) hs hf he (by omega) (by omega) (hM.step5 hi)))
  simp [opsM, execOp, hx, hm, Result.andThen]
theorem case6 {a0 : Act} {n : Nat} {OI ON OD : Obj} {P4 V5 : Value} {w1 : World} {listed : Array Bool} {a : Act} {w : World} (h6 : a0.tmps.getD 6 undef = (.int .i64 (n : Nat))) (hsz : 44 ≤ a0.tmps.size) (hl : listed.size = 14) (h : Inv a0 n OI ON OD P4 V5 w1 listed a w)
    {Q : Exit → Act → World → Prop} (K : Act → World → Prop) (hK : ∀ a' w', Inv a0 n OI ON OD P4 V5 w1 (listed.setIfInBounds 6 true) a' w' → K a' w') : wpOp Try.prog opsM Q 6 K a w := by
  obtain ⟨β, s, hs, hf, he, hM⟩ := h
  refine wpOp_run (o := opsM[6]) (w' := w) (v := (.int .i64 (n : Nat))) rfl rfl ?_ (hK _ _ (Inv.put (d := 37) hs hf he (by omega) (by omega) hM.step6))
  refine (BigFrame.run_move (.tmp 6) rfl w).trans ?_
  have := hM.rest 6 (by omega) (by omega)
  show Result.ok (Next.value (a.tmps.getD 6 undef)) w = _
  rw [he, this]
  rw [h6]
theorem case7 {a0 : Act} {n : Nat} {OI ON OD : Obj} {P4 V5 : Value} {w1 : World} {listed : Array Bool} {a : Act} {w : World} (hsz : 44 ≤ a0.tmps.size) (hl : listed.size = 14) (h : Inv a0 n OI ON OD P4 V5 w1 listed a w) (hi : listed.getD 7 false = false) (hd : listed.getD 6 false = true)
    (hm : ∀ W : World, (Instr.makeSlice 51 (.int .i64 (n : Nat)) (.int .i64 (n : Nat))).run Try.prog W = .ok (.slice (some ⟨W.heap.size, 0, none⟩) n n) (W.alloc ON))
    {Q : Exit → Act → World → Prop} (K : Act → World → Prop) (hK : ∀ a' w', Inv a0 n OI ON OD P4 V5 w1 (listed.setIfInBounds 7 true) a' w' → K a' w') : wpOp Try.prog opsM Q 7 K a w := by
  obtain ⟨β, s, hs, hf, he, hM⟩ := h
  have hx : a.eval (.tmp 37) = .int .i64 (n : Nat) := (he 37).trans (hM.m6 hd)
  refine wpOp_run (o := opsM[7]) (w' := w.alloc ON) (v := .slice (some ⟨w.heap.size, 0, none⟩) n n) rfl rfl ?_ (hK _ _ (Inv.put (d := 38) hs hf he (by omega) (by omega) (hM.step7 hi)))
  simp [opsM, execOp, hx, hm, Result.andThen]
theorem case8 {a0 : Act} {n : Nat} {OI ON OD : Obj} {P4 V5 : Value} {w1 : World} {listed : Array Bool} {a : Act} {w : World} (h6 : a0.tmps.getD 6 undef = (.int .i64 (n : Nat))) (hsz : 44 ≤ a0.tmps.size) (hl : listed.size = 14) (h : Inv a0 n OI ON OD P4 V5 w1 listed a w)
    {Q : Exit → Act → World → Prop} (K : Act → World → Prop) (hK : ∀ a' w', Inv a0 n OI ON OD P4 V5 w1 (listed.setIfInBounds 8 true) a' w' → K a' w') : wpOp Try.prog opsM Q 8 K a w := by
  obtain ⟨β, s, hs, hf, he, hM⟩ := h
  refine wpOp_run (o := opsM[8]) (w' := w) (v := (.int .i64 (n : Nat))) rfl rfl ?_ (hK _ _ (Inv.put (d := 39) hs hf he (by omega) (by omega) hM.step8))
  refine (BigFrame.run_move (.tmp 6) rfl w).trans ?_
  have := hM.rest 6 (by omega) (by omega)
  show Result.ok (Next.value (a.tmps.getD 6 undef)) w = _
  rw [he, this]
  rw [h6]
theorem case9 {a0 : Act} {n : Nat} {OI ON OD : Obj} {P4 V5 : Value} {w1 : World} {listed : Array Bool} {a : Act} {w : World} (hsz : 44 ≤ a0.tmps.size) (hl : listed.size = 14) (h : Inv a0 n OI ON OD P4 V5 w1 listed a w) (hi : listed.getD 9 false = false) (hd : listed.getD 8 false = true)
    (hm : ∀ W : World, (Instr.makeSlice 52 (.int .i64 (n : Nat)) (.int .i64 (n : Nat))).run Try.prog W = .ok (.slice (some ⟨W.heap.size, 0, none⟩) n n) (W.alloc OD))
    {Q : Exit → Act → World → Prop} (K : Act → World → Prop) (hK : ∀ a' w', Inv a0 n OI ON OD P4 V5 w1 (listed.setIfInBounds 9 true) a' w' → K a' w') : wpOp Try.prog opsM Q 9 K a w := by
  obtain ⟨β, s, hs, hf, he, hM⟩ := h
  have hx : a.eval (.tmp 39) = .int .i64 (n : Nat) := (he 39).trans (hM.m8 hd)
  refine wpOp_run (o := opsM[9]) (w' := w.alloc OD) (v := .slice (some ⟨w.heap.size, 0, none⟩) n n) rfl rfl ?_ (hK _ _ (Inv.put (d := 40) hs hf he (by omega) (by omega) (hM.step9 hi)))
  simp [opsM, execOp, hx, hm, Result.andThen]
theorem case10 {a0 : Act} {n : Nat} {OI ON OD : Obj} {P4 V5 : Value} {w1 : World} {listed : Array Bool} {a : Act} {w : World} (hsz : 44 ≤ a0.tmps.size) (hl : listed.size = 14) (h : Inv a0 n OI ON OD P4 V5 w1 listed a w) (hi : listed.getD 10 false = false)
    {Q : Exit → Act → World → Prop} (K : Act → World → Prop) (hK : ∀ a' w', Inv a0 n OI ON OD P4 V5 w1 (listed.setIfInBounds 10 true) a' w' → K a' w') : wpOp Try.prog opsM Q 10 K a w := by
  obtain ⟨β, s, hs, hf, he, hM⟩ := h
  exact wpOp_run (o := opsM[10]) (w' := w.alloc (.map #[] 0)) (v := .map (some w.heap.size)) rfl rfl rfl (hK _ _ (Inv.put (d := 41) hs hf he (by omega) (by omega) (hM.step10 hi)))
theorem case11 {a0 : Act} {n : Nat} {OI ON OD : Obj} {P4 V5 : Value} {w1 : World} {listed : Array Bool} {a : Act} {w : World} (hsz : 44 ≤ a0.tmps.size) (hl : listed.size = 14) (h : Inv a0 n OI ON OD P4 V5 w1 listed a w) (hd : listed.getD 3 false = true ∧ listed.getD 5 false = true ∧ listed.getD 7 false = true ∧ listed.getD 9 false = true ∧ listed.getD 10 false = true) (hd2 : listed.getD 0 false = true ∧ listed.getD 1 false = true) {p4 va : Option Addr} {vn vc : Nat} (hP : P4 = .pointer p4) (hV : V5 = .slice va vn vc)
    {Q : Exit → Act → World → Prop} (K : Act → World → Prop) (hK : ∀ a' w', Inv a0 n OI ON OD P4 V5 w1 (listed.setIfInBounds 11 true) a' w' → K a' w') : wpOp Try.prog opsM Q 11 K a w := by
  subst hP hV
  obtain ⟨β, s, hs, hf, he, hM⟩ := h
  have x31 : a.tmps[31]?.getD undef = _ := (Array.getD_eq_getD_getElem?.symm.trans (he 31)).trans (hM.m0 hd2.1)
  have x32 : a.tmps[32]?.getD undef = _ := (Array.getD_eq_getD_getElem?.symm.trans (he 32)).trans (hM.m1 hd2.2)
  have x34 : a.tmps[34]?.getD undef = _ := (Array.getD_eq_getD_getElem?.symm.trans (he 34)).trans (hM.a3 hd.1).1
  have x36 : a.tmps[36]?.getD undef = _ := (Array.getD_eq_getD_getElem?.symm.trans (he 36)).trans (hM.a5 hd.2.1).1
  have x38 : a.tmps[38]?.getD undef = _ := (Array.getD_eq_getD_getElem?.symm.trans (he 38)).trans (hM.a7 hd.2.2.1).1
  have x40 : a.tmps[40]?.getD undef = _ := (Array.getD_eq_getD_getElem?.symm.trans (he 40)).trans (hM.a9 hd.2.2.2.1).1
  have x41 : a.tmps[41]?.getD undef = _ := (Array.getD_eq_getD_getElem?.symm.trans (he 41)).trans (hM.a10 hd.2.2.2.2).1
  refine wpOp_run (o := opsM[11]) (w' := w) (v := .agg #[.pointer p4, .slice va vn vc, .slice (some ⟨β 3, 0, none⟩) n n, .slice (some ⟨β 5, 0, none⟩) n n, .slice (some ⟨β 7, 0, none⟩) n n, .slice (some ⟨β 9, 0, none⟩) n n, .map (some (β 10))]) rfl rfl ?_ (hK _ _ (Inv.put (d := 42) hs hf he (by omega) (by omega) (hM.step11 hd)))
  simp only [opsM]
  simp [execOp, x31, x32, x34, x36, x38, x40, x41, go_sem]
theorem case12 {a0 : Act} {n : Nat} {OI ON OD : Obj} {P4 V5 : Value} {w1 : World} {listed : Array Bool} {a : Act} {w : World} (hsz : 44 ≤ a0.tmps.size) (hl : listed.size = 14) (h : Inv a0 n OI ON OD P4 V5 w1 listed a w) (hi : listed.getD 12 false = false) (hd : listed.getD 11 false = true) {p4 va : Option Addr} {vn vc : Nat} (hP : P4 = .pointer p4) (hV : V5 = .slice va vn vc)
    {Q : Exit → Act → World → Prop} (K : Act → World → Prop) (hK : ∀ a' w', Inv a0 n OI ON OD P4 V5 w1 (listed.setIfInBounds 12 true) a' w' → K a' w') : wpOp Try.prog opsM Q 12 K a w := by
  subst hP hV
  obtain ⟨β, s, hs, hf, he, hM⟩ := h
  have x42 : a.tmps[42]?.getD undef = _ := (Array.getD_eq_getD_getElem?.symm.trans (he 42)).trans (hM.b11 hd)
  refine wpOp_run (o := opsM[12]) (w' := w.alloc (.cells #[.pointer p4, .slice va vn vc, .slice (some ⟨β 3, 0, none⟩) n n, .slice (some ⟨β 5, 0, none⟩) n n, .slice (some ⟨β 7, 0, none⟩) n n, .slice (some ⟨β 9, 0, none⟩) n n, .map (some (β 10))] 55)) (v := .pointer (some ⟨w.heap.size, 0, none⟩)) rfl rfl ?_ (hK _ _ (Inv.put (d := 43) hs hf he (by omega) (by omega) (hM.step12 hd hi)))
  simp only [opsM]
  simp [execOp, x42, go_sem]
theorem case13 {a0 : Act} {n : Nat} {OI ON OD : Obj} {P4 V5 : Value} {w1 : World} {listed : Array Bool} {a : Act} {w : World} (hsz : 44 ≤ a0.tmps.size) (hl : listed.size = 14) (h : Inv a0 n OI ON OD P4 V5 w1 listed a w) (hd : listed.getD 12 false = true)
    {Q : Exit → Act → World → Prop} (K : Act → World → Prop) (hK : ∀ a' w', Inv a0 n OI ON OD P4 V5 w1 (listed.setIfInBounds 13 true) a' w' → K a' w') : wpOp Try.prog opsM Q 13 K a w := by
  obtain ⟨β, s, hs, hf, he, hM⟩ := h
  refine wpOp_run (o := opsM[13]) (w' := w) (v := s 43) rfl rfl ?_ (hK _ _ (Inv.put (d := 7) hs hf he (by omega) (by omega) (hM.step13 hd)))
  refine (BigFrame.run_assign (.tmp 43) rfl w).trans ?_
  show Result.ok (Next.value (a.tmps.getD 43 undef)) w = _
  rw [he]
theorem act_ext (a b : Act) (hs : a.tmps.size = b.tmps.size) (hd : a.defers = b.defers) (h : ∀ k, a.tmps.getD k undef = b.tmps.getD k undef) : a = b := by
  obtain ⟨x, d⟩ := a
  obtain ⟨y, e⟩ := b
  simp only at hs hd h
  subst hd
  congr 1
  apply Array.ext hs
  intro k h1 h2
  have := h k
  simpa [h1, h2] using this
theorem size_put (a : Act) (d : Option Tmp) (v : Value) : (a.put d v).tmps.size = a.tmps.size := by cases d <;> simp [Act.put]
theorem defers_put (a : Act) (d : Option Tmp) (v : Value) : (a.put d v).defers = a.defers := by cases d <;> rfl
theorem false_of (l : Array Bool) (i : Nat) (h : l.getD i true = false) : l.getD i false = false := by
  simp only [Array.getD_eq_getD_getElem?] at h ⊢
  cases hx : l[i]? with
  | none => rfl
  | some b => rw [hx] at h; exact h
theorem true_of (l : Array Bool) (i : Nat) (hi : i < l.size) (h : l.getD i false = false) : l.getD i true = false := by
  simp only [Array.getD_eq_getD_getElem?] at h ⊢
  rw [Array.getElem?_eq_getElem hi] at h ⊢
  exact h
/-- what the statement has made -/
structure Made (n : Nat) (OI ON OD : Obj) (P4 V5 : Value) (w1 : World) (ib ob nb db mb sb : Nat) (wx : World) : Prop where
  hi : wx.heap[ib]? = some OI
  ho : wx.heap[ob]? = some OI
  hn : wx.heap[nb]? = some ON
  hd : wx.heap[db]? = some OD
  hm : wx.heap[mb]? = some (.map #[] 0)
  hs : wx.heap[sb]? = some (.cells #[P4, V5, .slice (some ⟨ib, 0, none⟩) n n, .slice (some ⟨ob, 0, none⟩) n n, .slice (some ⟨nb, 0, none⟩) n n, .slice (some ⟨db, 0, none⟩) n n, .map (some mb)] 55 (0, 0))
  old : w1.heap.size ≤ ib ∧ w1.heap.size ≤ ob ∧ w1.heap.size ≤ nb ∧ w1.heap.size ≤ db ∧ w1.heap.size ≤ mb ∧ w1.heap.size ≤ sb
  apart : ib ≠ ob ∧ ib ≠ nb ∧ ib ≠ db ∧ ib ≠ mb ∧ ib ≠ sb ∧ ob ≠ nb ∧ ob ≠ db ∧ ob ≠ mb ∧ ob ≠ sb ∧ nb ≠ db ∧ nb ≠ mb ∧ nb ≠ sb ∧ db ≠ mb ∧ db ≠ sb ∧ mb ≠ sb
  below : Below w1.heap.size w1 wx
set_option maxHeartbeats 2000000 in
theorem make_region (a0 : Act) (w1 : World) (n : Nat) (OI ON OD : Obj) (P4 V5 : Value) (p4 va : Option Addr) (vn vc : Nat) (hP : P4 = .pointer p4) (hV : V5 = .slice va vn vc) (hsz : 44 ≤ a0.tmps.size)
    (h4 : a0.tmps.getD 4 undef = P4) (h5 : a0.tmps.getD 5 undef = V5) (h6 : a0.tmps.getD 6 undef = .int .i64 (n : Nat))
    (m50 : ∀ W : World, (Instr.makeSlice 50 (.int .i64 (n : Nat)) (.int .i64 (n : Nat))).run Try.prog W = .ok (.slice (some ⟨W.heap.size, 0, none⟩) n n) (W.alloc OI))
    (m51 : ∀ W : World, (Instr.makeSlice 51 (.int .i64 (n : Nat)) (.int .i64 (n : Nat))).run Try.prog W = .ok (.slice (some ⟨W.heap.size, 0, none⟩) n n) (W.alloc ON))
    (m52 : ∀ W : World, (Instr.makeSlice 52 (.int .i64 (n : Nat)) (.int .i64 (n : Nat))).run Try.prog W = .ok (.slice (some ⟨W.heap.size, 0, none⟩) n n) (W.alloc OD))
    (id : Nat) (Q : Exit → Act → World → Prop)
    (hQ : ∀ (ib ob nb db mb sb : Nat) (x : Nat → Value) (wx : World), Made n OI ON OD P4 V5 w1 ib ob nb db mb sb wx → Q .normal ((((((((((((((a0.put (some 31) (x 31)).put (some 32) (x 32)).put (some 33) (x 33)).put (some 34) (x 34)).put (some 35) (x 35)).put (some 36) (x 36)).put (some 37) (x 37)).put (some 38) (x 38)).put (some 39) (x 39)).put (some 40) (x 40)).put (some 41) (x 41)).put (some 42) (x 42)).put (some 43) (x 43)).put (some 7) (.pointer (some ⟨sb, 0, none⟩))) wx) : (Code.region id opsM true).wp Try.prog Q a0 w1 := by
  refine wp_region_any (by kernel_rfl) (wpAny_inv (Inv a0 n OI ON OD P4 V5 w1) ?_ ?_ opsM.size _ a0 _ (by simp) (by simp [opsM]) ?_)
  · intro listed a w i hls h hi K hK
    have hl : listed.size = 14 := hls
    obtain ⟨hff, o, ho, hdep0⟩ := mem_ready.1 hi
    have hf := false_of listed i hff
    have hi14 : i < 14 := by
      rcases Nat.lt_or_ge i 14 with h' | h'
      · exact h'
      · have : opsM[i]? = none := Array.getElem?_eq_none h'
        rw [this] at ho; cases ho
    have hdep : ∀ (o' : Oper), opsM[i]? = some o' → ∀ e ∈ o'.after, Region.binds .any e = true → listed.getD e.on false = true := fun o' ho' e he hb => by
      rw [ho] at ho'
      have := Option.some.inj ho'
      subst this
      exact hdep0 e he hb
    have hc : i = 0 ∨ i = 1 ∨ i = 2 ∨ i = 3 ∨ i = 4 ∨ i = 5 ∨ i = 6 ∨ i = 7 ∨ i = 8 ∨ i = 9 ∨ i = 10 ∨ i = 11 ∨ i = 12 ∨ i = 13 := by omega
    clear hdep0 ho hi hff
    rcases hc with rfl | rfl | rfl | rfl | rfl | rfl | rfl | rfl | rfl | rfl | rfl | rfl | rfl | rfl
    · exact case0 h4 hsz hl h K hK
    · exact case1 h5 hsz hl h K hK
    · exact case2 h6 hsz hl h K hK
    · have hd : ∀ j, (⟨j, Ground.data⟩ : Edge) ∈ opsM[3].after → listed.getD j false = true := fun j hj => hdep _ rfl _ hj rfl
      exact case3 hsz hl h hf (hd 2 (by simp [opsM])) m50 K hK
    · exact case4 h6 hsz hl h K hK
    · have hd : ∀ j, (⟨j, Ground.data⟩ : Edge) ∈ opsM[5].after → listed.getD j false = true := fun j hj => hdep _ rfl _ hj rfl
      exact case5 hsz hl h hf (hd 4 (by simp [opsM])) m50 K hK
    · exact case6 h6 hsz hl h K hK
    · have hd : ∀ j, (⟨j, Ground.data⟩ : Edge) ∈ opsM[7].after → listed.getD j false = true := fun j hj => hdep _ rfl _ hj rfl
      exact case7 hsz hl h hf (hd 6 (by simp [opsM])) m51 K hK
    · exact case8 h6 hsz hl h K hK
    · have hd : ∀ j, (⟨j, Ground.data⟩ : Edge) ∈ opsM[9].after → listed.getD j false = true := fun j hj => hdep _ rfl _ hj rfl
      exact case9 hsz hl h hf (hd 8 (by simp [opsM])) m52 K hK
    · exact case10 hsz hl h hf K hK
    · have hd : ∀ j, (⟨j, Ground.data⟩ : Edge) ∈ opsM[11].after → listed.getD j false = true := fun j hj => hdep _ rfl _ hj rfl
      exact case11 hsz hl h ⟨hd 3 (by simp [opsM]), hd 5 (by simp [opsM]), hd 7 (by simp [opsM]), hd 9 (by simp [opsM]), hd 10 (by simp [opsM])⟩ ⟨hd 0 (by simp [opsM]), hd 1 (by simp [opsM])⟩ hP hV K hK
    · have hd : ∀ j, (⟨j, Ground.data⟩ : Edge) ∈ opsM[12].after → listed.getD j false = true := fun j hj => hdep _ rfl _ hj rfl
      exact case12 hsz hl h hf (hd 11 (by simp [opsM])) hP hV K hK
    · have hd : ∀ j, (⟨j, Ground.data⟩ : Edge) ∈ opsM[13].after → listed.getD j false = true := fun j hj => hdep _ rfl _ hj rfl
      exact case13 hsz hl h (hd 12 (by simp [opsM])) K hK
  · intro listed a w hls h hr
    have hl : listed.size = 14 := hls
    have l0 : listed.getD 0 false = true := by
      cases hc : listed.getD 0 false with
      | true => rfl
      | false =>
        have ha : ∀ e ∈ opsM[0].after, listed.getD e.on false = true := by
          intro e he
          have ho : e.on ∈ opsM[0].after.toList.map (·.on) := List.mem_map.2 ⟨e, Array.mem_toList_iff.2 he, rfl⟩
          have hll : opsM[0].after.toList.map (·.on) = [] := rfl
          rw [hll] at ho
          generalize e.on = j at ho
          cases ho
          skip
        have hm : 0 ∈ Region.ready .any opsM listed := mem_ready.2 ⟨true_of listed 0 (by omega) hc, _, rfl, fun e he _ => ha e he⟩
        rw [hr] at hm
        cases hm
    have l1 : listed.getD 1 false = true := by
      cases hc : listed.getD 1 false with
      | true => rfl
      | false =>
        have ha : ∀ e ∈ opsM[1].after, listed.getD e.on false = true := by
          intro e he
          have ho : e.on ∈ opsM[1].after.toList.map (·.on) := List.mem_map.2 ⟨e, Array.mem_toList_iff.2 he, rfl⟩
          have hll : opsM[1].after.toList.map (·.on) = [] := rfl
          rw [hll] at ho
          generalize e.on = j at ho
          cases ho
          skip
        have hm : 1 ∈ Region.ready .any opsM listed := mem_ready.2 ⟨true_of listed 1 (by omega) hc, _, rfl, fun e he _ => ha e he⟩
        rw [hr] at hm
        cases hm
    have l2 : listed.getD 2 false = true := by
      cases hc : listed.getD 2 false with
      | true => rfl
      | false =>
        have ha : ∀ e ∈ opsM[2].after, listed.getD e.on false = true := by
          intro e he
          have ho : e.on ∈ opsM[2].after.toList.map (·.on) := List.mem_map.2 ⟨e, Array.mem_toList_iff.2 he, rfl⟩
          have hll : opsM[2].after.toList.map (·.on) = [] := rfl
          rw [hll] at ho
          generalize e.on = j at ho
          cases ho
          skip
        have hm : 2 ∈ Region.ready .any opsM listed := mem_ready.2 ⟨true_of listed 2 (by omega) hc, _, rfl, fun e he _ => ha e he⟩
        rw [hr] at hm
        cases hm
    have l3 : listed.getD 3 false = true := by
      cases hc : listed.getD 3 false with
      | true => rfl
      | false =>
        have ha : ∀ e ∈ opsM[3].after, listed.getD e.on false = true := by
          intro e he
          have ho : e.on ∈ opsM[3].after.toList.map (·.on) := List.mem_map.2 ⟨e, Array.mem_toList_iff.2 he, rfl⟩
          have hll : opsM[3].after.toList.map (·.on) = [2, 2] := rfl
          rw [hll] at ho
          generalize e.on = j at ho
          simp at ho
          subst ho; assumption
        have hm : 3 ∈ Region.ready .any opsM listed := mem_ready.2 ⟨true_of listed 3 (by omega) hc, _, rfl, fun e he _ => ha e he⟩
        rw [hr] at hm
        cases hm
    have l4 : listed.getD 4 false = true := by
      cases hc : listed.getD 4 false with
      | true => rfl
      | false =>
        have ha : ∀ e ∈ opsM[4].after, listed.getD e.on false = true := by
          intro e he
          have ho : e.on ∈ opsM[4].after.toList.map (·.on) := List.mem_map.2 ⟨e, Array.mem_toList_iff.2 he, rfl⟩
          have hll : opsM[4].after.toList.map (·.on) = [] := rfl
          rw [hll] at ho
          generalize e.on = j at ho
          cases ho
          skip
        have hm : 4 ∈ Region.ready .any opsM listed := mem_ready.2 ⟨true_of listed 4 (by omega) hc, _, rfl, fun e he _ => ha e he⟩
        rw [hr] at hm
        cases hm
    have l5 : listed.getD 5 false = true := by
      cases hc : listed.getD 5 false with
      | true => rfl
      | false =>
        have ha : ∀ e ∈ opsM[5].after, listed.getD e.on false = true := by
          intro e he
          have ho : e.on ∈ opsM[5].after.toList.map (·.on) := List.mem_map.2 ⟨e, Array.mem_toList_iff.2 he, rfl⟩
          have hll : opsM[5].after.toList.map (·.on) = [4, 4] := rfl
          rw [hll] at ho
          generalize e.on = j at ho
          simp at ho
          subst ho; assumption
        have hm : 5 ∈ Region.ready .any opsM listed := mem_ready.2 ⟨true_of listed 5 (by omega) hc, _, rfl, fun e he _ => ha e he⟩
        rw [hr] at hm
        cases hm
    have l6 : listed.getD 6 false = true := by
      cases hc : listed.getD 6 false with
      | true => rfl
      | false =>
        have ha : ∀ e ∈ opsM[6].after, listed.getD e.on false = true := by
          intro e he
          have ho : e.on ∈ opsM[6].after.toList.map (·.on) := List.mem_map.2 ⟨e, Array.mem_toList_iff.2 he, rfl⟩
          have hll : opsM[6].after.toList.map (·.on) = [] := rfl
          rw [hll] at ho
          generalize e.on = j at ho
          cases ho
          skip
        have hm : 6 ∈ Region.ready .any opsM listed := mem_ready.2 ⟨true_of listed 6 (by omega) hc, _, rfl, fun e he _ => ha e he⟩
        rw [hr] at hm
        cases hm
    have l7 : listed.getD 7 false = true := by
      cases hc : listed.getD 7 false with
      | true => rfl
      | false =>
        have ha : ∀ e ∈ opsM[7].after, listed.getD e.on false = true := by
          intro e he
          have ho : e.on ∈ opsM[7].after.toList.map (·.on) := List.mem_map.2 ⟨e, Array.mem_toList_iff.2 he, rfl⟩
          have hll : opsM[7].after.toList.map (·.on) = [6, 6] := rfl
          rw [hll] at ho
          generalize e.on = j at ho
          simp at ho
          subst ho; assumption
        have hm : 7 ∈ Region.ready .any opsM listed := mem_ready.2 ⟨true_of listed 7 (by omega) hc, _, rfl, fun e he _ => ha e he⟩
        rw [hr] at hm
        cases hm
    have l8 : listed.getD 8 false = true := by
      cases hc : listed.getD 8 false with
      | true => rfl
      | false =>
        have ha : ∀ e ∈ opsM[8].after, listed.getD e.on false = true := by
          intro e he
          have ho : e.on ∈ opsM[8].after.toList.map (·.on) := List.mem_map.2 ⟨e, Array.mem_toList_iff.2 he, rfl⟩
          have hll : opsM[8].after.toList.map (·.on) = [] := rfl
          rw [hll] at ho
          generalize e.on = j at ho
          cases ho
          skip
        have hm : 8 ∈ Region.ready .any opsM listed := mem_ready.2 ⟨true_of listed 8 (by omega) hc, _, rfl, fun e he _ => ha e he⟩
        rw [hr] at hm
        cases hm
    have l9 : listed.getD 9 false = true := by
      cases hc : listed.getD 9 false with
      | true => rfl
      | false =>
        have ha : ∀ e ∈ opsM[9].after, listed.getD e.on false = true := by
          intro e he
          have ho : e.on ∈ opsM[9].after.toList.map (·.on) := List.mem_map.2 ⟨e, Array.mem_toList_iff.2 he, rfl⟩
          have hll : opsM[9].after.toList.map (·.on) = [8, 8] := rfl
          rw [hll] at ho
          generalize e.on = j at ho
          simp at ho
          subst ho; assumption
        have hm : 9 ∈ Region.ready .any opsM listed := mem_ready.2 ⟨true_of listed 9 (by omega) hc, _, rfl, fun e he _ => ha e he⟩
        rw [hr] at hm
        cases hm
    have l10 : listed.getD 10 false = true := by
      cases hc : listed.getD 10 false with
      | true => rfl
      | false =>
        have ha : ∀ e ∈ opsM[10].after, listed.getD e.on false = true := by
          intro e he
          have ho : e.on ∈ opsM[10].after.toList.map (·.on) := List.mem_map.2 ⟨e, Array.mem_toList_iff.2 he, rfl⟩
          have hll : opsM[10].after.toList.map (·.on) = [] := rfl
          rw [hll] at ho
          generalize e.on = j at ho
          cases ho
          skip
        have hm : 10 ∈ Region.ready .any opsM listed := mem_ready.2 ⟨true_of listed 10 (by omega) hc, _, rfl, fun e he _ => ha e he⟩
        rw [hr] at hm
        cases hm
    have l11 : listed.getD 11 false = true := by
      cases hc : listed.getD 11 false with
      | true => rfl
      | false =>
        have ha : ∀ e ∈ opsM[11].after, listed.getD e.on false = true := by
          intro e he
          have ho : e.on ∈ opsM[11].after.toList.map (·.on) := List.mem_map.2 ⟨e, Array.mem_toList_iff.2 he, rfl⟩
          have hll : opsM[11].after.toList.map (·.on) = [0, 1, 3, 5, 7, 9, 10] := rfl
          rw [hll] at ho
          generalize e.on = j at ho
          simp at ho
          rcases ho with rfl | rfl | rfl | rfl | rfl | rfl | rfl <;> assumption
        have hm : 11 ∈ Region.ready .any opsM listed := mem_ready.2 ⟨true_of listed 11 (by omega) hc, _, rfl, fun e he _ => ha e he⟩
        rw [hr] at hm
        cases hm
    have l12 : listed.getD 12 false = true := by
      cases hc : listed.getD 12 false with
      | true => rfl
      | false =>
        have ha : ∀ e ∈ opsM[12].after, listed.getD e.on false = true := by
          intro e he
          have ho : e.on ∈ opsM[12].after.toList.map (·.on) := List.mem_map.2 ⟨e, Array.mem_toList_iff.2 he, rfl⟩
          have hll : opsM[12].after.toList.map (·.on) = [11] := rfl
          rw [hll] at ho
          generalize e.on = j at ho
          simp at ho
          subst ho; assumption
        have hm : 12 ∈ Region.ready .any opsM listed := mem_ready.2 ⟨true_of listed 12 (by omega) hc, _, rfl, fun e he _ => ha e he⟩
        rw [hr] at hm
        cases hm
    have l13 : listed.getD 13 false = true := by
      cases hc : listed.getD 13 false with
      | true => rfl
      | false =>
        have ha : ∀ e ∈ opsM[13].after, listed.getD e.on false = true := by
          intro e he
          have ho : e.on ∈ opsM[13].after.toList.map (·.on) := List.mem_map.2 ⟨e, Array.mem_toList_iff.2 he, rfl⟩
          have hll : opsM[13].after.toList.map (·.on) = [12, 0, 1, 2, 3, 4, 5, 6, 7, 8, 9, 10, 11, 12] := rfl
          rw [hll] at ho
          generalize e.on = j at ho
          simp at ho
          rcases ho with rfl | rfl | rfl | rfl | rfl | rfl | rfl | rfl | rfl | rfl | rfl | rfl | rfl | rfl <;> assumption
        have hm : 13 ∈ Region.ready .any opsM listed := mem_ready.2 ⟨true_of listed 13 (by omega) hc, _, rfl, fun e he _ => ha e he⟩
        rw [hr] at hm
        cases hm
    obtain ⟨β, s, hs, hfd, he, hM⟩ := h
    obtain ⟨sb, e43, hsb, os, ls, n3, n5, n7, n9, n10⟩ := hM.b12 l12
    obtain ⟨-, g3, o3, -⟩ := hM.a3 l3
    obtain ⟨-, g5, o5, -⟩ := hM.a5 l5
    obtain ⟨-, g7, o7, -⟩ := hM.a7 l7
    obtain ⟨-, g9, o9, -⟩ := hM.a9 l9
    obtain ⟨-, g10, o10, -⟩ := hM.a10 l10
    have hq := hQ (β 3) (β 5) (β 7) (β 9) (β 10) sb s w ⟨g3, g5, g7, g9, g10, hsb, ⟨o3, o5, o7, o9, o10, os⟩, ⟨hM.d3_5 l3 l5, hM.d3_7 l3 l7, hM.d3_9 l3 l9, hM.d3_10 l3 l10, n3, hM.d5_7 l5 l7, hM.d5_9 l5 l9, hM.d5_10 l5 l10, n5, hM.d7_9 l7 l9, hM.d7_10 l7 l10, n7, hM.d9_10 l9 l10, n9, n10⟩, hM.below⟩
    have e7 : s 7 = .pointer (some ⟨sb, 0, none⟩) := (hM.b13 l13).trans e43
    rw [← e7] at hq
    have hb : a = (((((((((((((a0.put (some 31) (s 31)).put (some 32) (s 32)).put (some 33) (s 33)).put (some 34) (s 34)).put (some 35) (s 35)).put (some 36) (s 36)).put (some 37) (s 37)).put (some 38) (s 38)).put (some 39) (s 39)).put (some 40) (s 40)).put (some 41) (s 41)).put (some 42) (s 42)).put (some 43) (s 43)).put (some 7) (s 7) := by
      refine act_ext _ _ (by simp only [size_put]; exact hs) (by simp only [defers_put]; exact hfd) fun k => ?_
      rw [he]
      simp only [getD_put44, size_put, hsz, Nat.reduceLT]
      by_cases hk : k = 7
      · subst hk; simp
      · by_cases hk2 : 31 ≤ k ∧ k ≤ 43
        · have hc : k = 31 ∨ k = 32 ∨ k = 33 ∨ k = 34 ∨ k = 35 ∨ k = 36 ∨ k = 37 ∨ k = 38 ∨ k = 39 ∨ k = 40 ∨ k = 41 ∨ k = 42 ∨ k = 43 := by omega
          rcases hc with rfl | rfl | rfl | rfl | rfl | rfl | rfl | rfl | rfl | rfl | rfl | rfl | rfl <;> simp
        · rw [hM.rest k hk2 hk]
          iterate 14 rw [if_neg (by omega)]
    rw [hb]
    exact hq
  · refine ⟨fun _ => 0, fun k => a0.tmps.getD k undef, rfl, rfl, fun _ => rfl, ?_⟩
    have hno : ∀ j, (Array.replicate opsM.size false).getD j false = false := fun j => by
      simp only [Array.getD_eq_getD_getElem?, Array.getElem?_replicate]
      split <;> rfl
    have hn : ∀ {p : Prop} (j : Nat), (Array.replicate opsM.size false).getD j false = true → p := fun j h => by rw [hno j] at h; cases h
    exact ⟨fun _ _ _ => rfl, fun h => hn _ h, fun h => hn _ h, fun h => hn _ h, fun h => hn _ h, fun h => hn _ h, fun h => hn _ h, fun h => hn _ h, fun h => hn _ h, fun h => hn _ h, fun h => hn _ h, fun h => hn _ h, fun h _ => hn _ h, fun h _ => hn _ h, fun h _ => hn _ h, fun h _ => hn _ h, fun h _ => hn _ h, fun h _ => hn _ h, fun h _ => hn _ h, fun h _ => hn _ h, fun h _ => hn _ h, fun h _ => hn _ h, fun h => hn _ h, fun h => hn _ h, fun h => hn _ h, fun h => hn _ h, fun h => hn _ h, fun h => hn _ h, (Below.refl _ _).drew, Nat.le_refl _⟩
end Go.Proofs.Ytlnbkljajocfoaa.TMake
