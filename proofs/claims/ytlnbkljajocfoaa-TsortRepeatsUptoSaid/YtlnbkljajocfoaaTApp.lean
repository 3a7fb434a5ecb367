/- Sort's statements that append a place to a list of places, in whatever order their loads come: what they leave. -/
import Derived.Test.YtlnbkljajocfoaaTFam
import Derived.Deep.AppendLies
namespace Go.Proofs.Ytlnbkljajocfoaa.TApp
open Go Go.RowKit Go.Maps Go.WideMaps Strs Topo TWords TPairs TGraph TRead TSorter TBefore TSlices TReverse TClone TClear TCycle TMake TFam

theorem World.cell_lt {w : World} {b i : Nat} {v : Value} (h : w.cell? ⟨b, i, none⟩ = some v) : b < w.heap.size := by
  exact World.block_lt_of_cell? w ⟨b, i, none⟩ h
theorem wpOp_skip {P : Program} {ops : Array Oper} {Q : Exit → Act → World → Prop} {i : Nat} {o : Oper} {K : Act → World → Prop} {a : Act} {w w' : World} (hi : ops[i]? = some o) (hg : o.guard = none) (hn : o.dst = none) (hr : (execOp a.eval o).run P w = .ok .skip w') (hK : K a w') : wpOp P ops Q i K a w := by
  unfold wpOp
  simp only [hi]
  have hw : Region.wanted o (yielded ops a.tmps) = true := by simp [Region.wanted, hg]
  rw [if_pos hw]
  left
  unfold Oper.wp
  rw [hr, Oper.upon_skip, hn]
  exact hK
theorem getD_putA (a : Act) (d : Nat) (v : Value) (h : 69 ≤ a.tmps.size) (hd : d < 69) (k : Nat) : (a.put (some d) v).tmps.getD k undef = if k = d then v else a.tmps.getD k undef := getD_put a d v (by omega) k
def opsA : Array Oper := #[
  { dst := some 51, op := Op.move (Operand.tmp 7), type := 49, pos := "tsort.go:113", after := #[], guard := none },
  { dst := some 52, op := Op.nilCheck (Operand.tmp 51), type := 0, pos := "tsort.go:113", after := #[{ on := 0, ground := Ground.data }], guard := none },
  { dst := some 53, op := Op.fieldAddr 55 (Operand.tmp 52) 2, type := 0, pos := "tsort.go:113", after := #[{ on := 1, ground := Ground.data }], guard := none },
  { dst := some 54, op := Op.load 50 (Operand.tmp 53), type := 50, pos := "tsort.go:113", after := #[{ on := 2, ground := Ground.data }], guard := none },
  { dst := some 55, op := Op.fieldAddr 57 (Operand.tmp 9) 1, type := 0, pos := "tsort.go:113", after := #[], guard := none },
  { dst := some 56, op := Op.load 3 (Operand.tmp 55), type := 3, pos := "tsort.go:113", after := #[{ on := 4, ground := Ground.data }], guard := none },
  { dst := some 57, op := Op.move (Operand.tmp 7), type := 49, pos := "tsort.go:113", after := #[], guard := none },
  { dst := some 58, op := Op.nilCheck (Operand.tmp 57), type := 0, pos := "tsort.go:113", after := #[{ on := 6, ground := Ground.data }], guard := none },
  { dst := some 59, op := Op.fieldAddr 55 (Operand.tmp 58) 2, type := 0, pos := "tsort.go:113", after := #[{ on := 7, ground := Ground.data }], guard := none },
  { dst := some 60, op := Op.load 50 (Operand.tmp 59), type := 50, pos := "tsort.go:113", after := #[{ on := 8, ground := Ground.data }], guard := none },
  { dst := some 61, op := Op.fieldAddr 57 (Operand.tmp 9) 1, type := 0, pos := "tsort.go:113", after := #[], guard := none },
  { dst := some 62, op := Op.load 3 (Operand.tmp 61), type := 3, pos := "tsort.go:113", after := #[{ on := 10, ground := Ground.data }], guard := none },
  { dst := some 63, op := Op.indexAddr 50 (Operand.tmp 60) (Operand.tmp 62), type := 0, pos := "tsort.go:113", after := #[{ on := 9, ground := Ground.data }, { on := 11, ground := Ground.data }], guard := none },
  { dst := some 64, op := Op.load 51 (Operand.tmp 63), type := 51, pos := "tsort.go:113", after := #[{ on := 12, ground := Ground.data }], guard := none },
  { dst := some 65, op := Op.move (Operand.tmp 8), type := 3, pos := "tsort.go:113", after := #[], guard := none },
  { dst := some 66, op := Op.buildSlice 51 1 #[(0, (Operand.tmp 65))], type := 51, pos := "tsort.go:113", after := #[{ on := 14, ground := Ground.data }], guard := none },
  { dst := some 67, op := Op.call { callee := Callee.builtin Builtin.append, args := #[(Operand.tmp 64), (Operand.tmp 66)], argTypes := #[51, 51] }, type := 51, pos := "tsort.go:113", after := #[{ on := 13, ground := Ground.data }, { on := 15, ground := Ground.data }], guard := none },
  { dst := some 68, op := Op.indexAddr 50 (Operand.tmp 54) (Operand.tmp 56), type := 0, pos := "tsort.go:113", after := #[{ on := 3, ground := Ground.data }, { on := 5, ground := Ground.data }, { on := 0, ground := Ground.phase }, { on := 1, ground := Ground.phase }, { on := 2, ground := Ground.phase }, { on := 3, ground := Ground.phase }, { on := 4, ground := Ground.phase }, { on := 5, ground := Ground.phase }, { on := 6, ground := Ground.phase }, { on := 7, ground := Ground.phase }, { on := 8, ground := Ground.phase }, { on := 9, ground := Ground.phase }, { on := 10, ground := Ground.phase }, { on := 11, ground := Ground.phase }, { on := 12, ground := Ground.phase }, { on := 13, ground := Ground.phase }, { on := 14, ground := Ground.phase }, { on := 15, ground := Ground.phase }, { on := 16, ground := Ground.phase }], guard := none },
  { dst := none, op := Op.store 51 (Operand.tmp 68) (Operand.tmp 67), type := 0, pos := "tsort.go:113", after := #[{ on := 17, ground := Ground.data }, { on := 16, ground := Ground.data }, { on := 16, ground := Ground.chain }, { on := 0, ground := Ground.phase }, { on := 1, ground := Ground.phase }, { on := 2, ground := Ground.phase }, { on := 3, ground := Ground.phase }, { on := 4, ground := Ground.phase }, { on := 5, ground := Ground.phase }, { on := 6, ground := Ground.phase }, { on := 7, ground := Ground.phase }, { on := 8, ground := Ground.phase }, { on := 9, ground := Ground.phase }, { on := 10, ground := Ground.phase }, { on := 11, ground := Ground.phase }, { on := 12, ground := Ground.phase }, { on := 13, ground := Ground.phase }, { on := 14, ground := Ground.phase }, { on := 15, ground := Ground.phase }, { on := 16, ground := Ground.phase }], guard := none }]
/-- what holds while some of the operations have come up -/
structure ApA (n sb P ib B j k : Nat) (val : Value) (xs : List Nat) (w0 : World) (s0 : Nat → Value) (L : Nat → Bool) (s : Nat → Value) (w : World) : Prop where
  rest : ∀ i, ¬ (51 ≤ i ∧ i ≤ 68) → s i = s0 i
  q0 : L 0 = true → s 51 = (.pointer (some ⟨sb, 0, none⟩))
  q1 : L 1 = true → s 52 = (.pointer (some ⟨sb, 0, none⟩))
  q2 : L 2 = true → s 53 = (.pointer (some ⟨sb, 2, none⟩))
  q3 : L 3 = true → s 54 = (.slice (some ⟨ib, 0, none⟩) n n)
  q4 : L 4 = true → s 55 = (.pointer (some ⟨P, 1, none⟩))
  q5 : L 5 = true → s 56 = (.int .i64 (j : Nat))
  q6 : L 6 = true → s 57 = (.pointer (some ⟨sb, 0, none⟩))
  q7 : L 7 = true → s 58 = (.pointer (some ⟨sb, 0, none⟩))
  q8 : L 8 = true → s 59 = (.pointer (some ⟨sb, 2, none⟩))
  q9 : L 9 = true → s 60 = (.slice (some ⟨ib, 0, none⟩) n n)
  q10 : L 10 = true → s 61 = (.pointer (some ⟨P, 1, none⟩))
  q11 : L 11 = true → s 62 = (.int .i64 (j : Nat))
  q12 : L 12 = true → s 63 = (.pointer (some ⟨ib, j, none⟩))
  q13 : L 13 = true → s 64 = val
  q14 : L 14 = true → s 65 = (.int .i64 (k : Nat))
  q17 : L 17 = true → s 68 = (.pointer (some ⟨ib, j, none⟩))
  q15 : L 15 = true → s 66 = .slice (some ⟨w0.heap.size, 0, none⟩) 1 1
  e0 : L 16 = false → L 15 = false → w = w0
  e1 : L 16 = false → L 15 = true → w = w0.alloc (.cells #[.int .i64 (k : Nat)] 3)
  e2 : L 16 = true → ∃ g cap w3, w3.ownsRow B 3 1 (.slice (some ⟨g, 0, none⟩) (xs.length + 1) cap) (xs.length + 1) (icells xs ++ [.int .i64 (k : Nat)]) ∧ Below B w0 w3 ∧ (∀ q, q < w0.heap.size → val.ownBlock ≠ some q → w3.heap[q]? = w0.heap[q]?) ∧ (val.ownBlock = some g ∨ g = w0.heap.size + 1) ∧ g < w3.heap.size ∧ s 67 = .slice (some ⟨g, 0, none⟩) (xs.length + 1) cap ∧ (L 18 = false → w = w3) ∧ (L 18 = true → w = w3.setCell ⟨ib, j, none⟩ (.slice (some ⟨g, 0, none⟩) (xs.length + 1) cap))
  p16 : L 16 = true → L 15 = true
  p17 : L 17 = true → ∀ i, i < 17 → L i = true
  p18 : L 18 = true → L 17 = true
  mem : L 18 = false → w.cell? ⟨sb, 2, none⟩ = some (.slice (some ⟨ib, 0, none⟩) n n) ∧ w.cell? ⟨P, 1, none⟩ = some (.int .i64 (j : Nat)) ∧ w.cell? ⟨ib, j, none⟩ = some val ∧ w.frozen? ⟨ib, j, none⟩ = false
theorem ApA.step0 {n sb P ib B j k : Nat} {val : Value} {xs : List Nat} {w0 : World} {s0 : Nat → Value} {L : Nat → Bool} {s : Nat → Value} {w : World} (h : ApA n sb P ib B j k val xs w0 s0 L s w) : ApA n sb P ib B j k val xs w0 s0 (fun i => L i || i == 0) (fun i => if i = 51 then (.pointer (some ⟨sb, 0, none⟩)) else s i) w := by
  have hr : ∀ i, ¬ (51 ≤ i ∧ i ≤ 68) → (if i = 51 then (.pointer (some ⟨sb, 0, none⟩)) else s i) = s0 i := fun i h1 => by rw [if_neg (by omega)]; exact h.rest i h1
  refine ⟨hr, (fun _ => by simp), (by simpa using h.q1), (by simpa using h.q2), (by simpa using h.q3), (by simpa using h.q4), (by simpa using h.q5), (by simpa using h.q6), (by simpa using h.q7), (by simpa using h.q8), (by simpa using h.q9), (by simpa using h.q10), (by simpa using h.q11), (by simpa using h.q12), (by simpa using h.q13), (by simpa using h.q14), (by simpa using h.q17), (by simpa using h.q15), (by simpa using h.e0), (by simpa using h.e1), (by simpa using h.e2), (by simpa using h.p16), (fun h17 i hi2 => by simp [h.p17 (by simpa using h17) i hi2]), (by simpa using h.p18), (by simpa using h.mem)⟩
theorem ApA.step1 {n sb P ib B j k : Nat} {val : Value} {xs : List Nat} {w0 : World} {s0 : Nat → Value} {L : Nat → Bool} {s : Nat → Value} {w : World} (h : ApA n sb P ib B j k val xs w0 s0 L s w) : ApA n sb P ib B j k val xs w0 s0 (fun i => L i || i == 1) (fun i => if i = 52 then (.pointer (some ⟨sb, 0, none⟩)) else s i) w := by
  have hr : ∀ i, ¬ (51 ≤ i ∧ i ≤ 68) → (if i = 52 then (.pointer (some ⟨sb, 0, none⟩)) else s i) = s0 i := fun i h1 => by rw [if_neg (by omega)]; exact h.rest i h1
  refine ⟨hr, (by simpa using h.q0), (fun _ => by simp), (by simpa using h.q2), (by simpa using h.q3), (by simpa using h.q4), (by simpa using h.q5), (by simpa using h.q6), (by simpa using h.q7), (by simpa using h.q8), (by simpa using h.q9), (by simpa using h.q10), (by simpa using h.q11), (by simpa using h.q12), (by simpa using h.q13), (by simpa using h.q14), (by simpa using h.q17), (by simpa using h.q15), (by simpa using h.e0), (by simpa using h.e1), (by simpa using h.e2), (by simpa using h.p16), (fun h17 i hi2 => by simp [h.p17 (by simpa using h17) i hi2]), (by simpa using h.p18), (by simpa using h.mem)⟩
theorem ApA.step2 {n sb P ib B j k : Nat} {val : Value} {xs : List Nat} {w0 : World} {s0 : Nat → Value} {L : Nat → Bool} {s : Nat → Value} {w : World} (h : ApA n sb P ib B j k val xs w0 s0 L s w) : ApA n sb P ib B j k val xs w0 s0 (fun i => L i || i == 2) (fun i => if i = 53 then (.pointer (some ⟨sb, 2, none⟩)) else s i) w := by
  have hr : ∀ i, ¬ (51 ≤ i ∧ i ≤ 68) → (if i = 53 then (.pointer (some ⟨sb, 2, none⟩)) else s i) = s0 i := fun i h1 => by rw [if_neg (by omega)]; exact h.rest i h1
  refine ⟨hr, (by simpa using h.q0), (by simpa using h.q1), (fun _ => by simp), (by simpa using h.q3), (by simpa using h.q4), (by simpa using h.q5), (by simpa using h.q6), (by simpa using h.q7), (by simpa using h.q8), (by simpa using h.q9), (by simpa using h.q10), (by simpa using h.q11), (by simpa using h.q12), (by simpa using h.q13), (by simpa using h.q14), (by simpa using h.q17), (by simpa using h.q15), (by simpa using h.e0), (by simpa using h.e1), (by simpa using h.e2), (by simpa using h.p16), (fun h17 i hi2 => by simp [h.p17 (by simpa using h17) i hi2]), (by simpa using h.p18), (by simpa using h.mem)⟩
theorem ApA.step3 {n sb P ib B j k : Nat} {val : Value} {xs : List Nat} {w0 : World} {s0 : Nat → Value} {L : Nat → Bool} {s : Nat → Value} {w : World} (h : ApA n sb P ib B j k val xs w0 s0 L s w) : ApA n sb P ib B j k val xs w0 s0 (fun i => L i || i == 3) (fun i => if i = 54 then (.slice (some ⟨ib, 0, none⟩) n n) else s i) w := by
  have hr : ∀ i, ¬ (51 ≤ i ∧ i ≤ 68) → (if i = 54 then (.slice (some ⟨ib, 0, none⟩) n n) else s i) = s0 i := fun i h1 => by rw [if_neg (by omega)]; exact h.rest i h1
  refine ⟨hr, (by simpa using h.q0), (by simpa using h.q1), (by simpa using h.q2), (fun _ => by simp), (by simpa using h.q4), (by simpa using h.q5), (by simpa using h.q6), (by simpa using h.q7), (by simpa using h.q8), (by simpa using h.q9), (by simpa using h.q10), (by simpa using h.q11), (by simpa using h.q12), (by simpa using h.q13), (by simpa using h.q14), (by simpa using h.q17), (by simpa using h.q15), (by simpa using h.e0), (by simpa using h.e1), (by simpa using h.e2), (by simpa using h.p16), (fun h17 i hi2 => by simp [h.p17 (by simpa using h17) i hi2]), (by simpa using h.p18), (by simpa using h.mem)⟩
theorem ApA.step4 {n sb P ib B j k : Nat} {val : Value} {xs : List Nat} {w0 : World} {s0 : Nat → Value} {L : Nat → Bool} {s : Nat → Value} {w : World} (h : ApA n sb P ib B j k val xs w0 s0 L s w) : ApA n sb P ib B j k val xs w0 s0 (fun i => L i || i == 4) (fun i => if i = 55 then (.pointer (some ⟨P, 1, none⟩)) else s i) w := by
  have hr : ∀ i, ¬ (51 ≤ i ∧ i ≤ 68) → (if i = 55 then (.pointer (some ⟨P, 1, none⟩)) else s i) = s0 i := fun i h1 => by rw [if_neg (by omega)]; exact h.rest i h1
  refine ⟨hr, (by simpa using h.q0), (by simpa using h.q1), (by simpa using h.q2), (by simpa using h.q3), (fun _ => by simp), (by simpa using h.q5), (by simpa using h.q6), (by simpa using h.q7), (by simpa using h.q8), (by simpa using h.q9), (by simpa using h.q10), (by simpa using h.q11), (by simpa using h.q12), (by simpa using h.q13), (by simpa using h.q14), (by simpa using h.q17), (by simpa using h.q15), (by simpa using h.e0), (by simpa using h.e1), (by simpa using h.e2), (by simpa using h.p16), (fun h17 i hi2 => by simp [h.p17 (by simpa using h17) i hi2]), (by simpa using h.p18), (by simpa using h.mem)⟩
theorem ApA.step5 {n sb P ib B j k : Nat} {val : Value} {xs : List Nat} {w0 : World} {s0 : Nat → Value} {L : Nat → Bool} {s : Nat → Value} {w : World} (h : ApA n sb P ib B j k val xs w0 s0 L s w) : ApA n sb P ib B j k val xs w0 s0 (fun i => L i || i == 5) (fun i => if i = 56 then (.int .i64 (j : Nat)) else s i) w := by
  have hr : ∀ i, ¬ (51 ≤ i ∧ i ≤ 68) → (if i = 56 then (.int .i64 (j : Nat)) else s i) = s0 i := fun i h1 => by rw [if_neg (by omega)]; exact h.rest i h1
  refine ⟨hr, (by simpa using h.q0), (by simpa using h.q1), (by simpa using h.q2), (by simpa using h.q3), (by simpa using h.q4), (fun _ => by simp), (by simpa using h.q6), (by simpa using h.q7), (by simpa using h.q8), (by simpa using h.q9), (by simpa using h.q10), (by simpa using h.q11), (by simpa using h.q12), (by simpa using h.q13), (by simpa using h.q14), (by simpa using h.q17), (by simpa using h.q15), (by simpa using h.e0), (by simpa using h.e1), (by simpa using h.e2), (by simpa using h.p16), (fun h17 i hi2 => by simp [h.p17 (by simpa using h17) i hi2]), (by simpa using h.p18), (by simpa using h.mem)⟩
theorem ApA.step6 {n sb P ib B j k : Nat} {val : Value} {xs : List Nat} {w0 : World} {s0 : Nat → Value} {L : Nat → Bool} {s : Nat → Value} {w : World} (h : ApA n sb P ib B j k val xs w0 s0 L s w) : ApA n sb P ib B j k val xs w0 s0 (fun i => L i || i == 6) (fun i => if i = 57 then (.pointer (some ⟨sb, 0, none⟩)) else s i) w := by
  have hr : ∀ i, ¬ (51 ≤ i ∧ i ≤ 68) → (if i = 57 then (.pointer (some ⟨sb, 0, none⟩)) else s i) = s0 i := fun i h1 => by rw [if_neg (by omega)]; exact h.rest i h1
  refine ⟨hr, (by simpa using h.q0), (by simpa using h.q1), (by simpa using h.q2), (by simpa using h.q3), (by simpa using h.q4), (by simpa using h.q5), (fun _ => by simp), (by simpa using h.q7), (by simpa using h.q8), (by simpa using h.q9), (by simpa using h.q10), (by simpa using h.q11), (by simpa using h.q12), (by simpa using h.q13), (by simpa using h.q14), (by simpa using h.q17), (by simpa using h.q15), (by simpa using h.e0), (by simpa using h.e1), (by simpa using h.e2), (by simpa using h.p16), (fun h17 i hi2 => by simp [h.p17 (by simpa using h17) i hi2]), (by simpa using h.p18), (by simpa using h.mem)⟩
theorem ApA.step7 {n sb P ib B j k : Nat} {val : Value} {xs : List Nat} {w0 : World} {s0 : Nat → Value} {L : Nat → Bool} {s : Nat → Value} {w : World} (h : ApA n sb P ib B j k val xs w0 s0 L s w) : ApA n sb P ib B j k val xs w0 s0 (fun i => L i || i == 7) (fun i => if i = 58 then (.pointer (some ⟨sb, 0, none⟩)) else s i) w := by
  have hr : ∀ i, ¬ (51 ≤ i ∧ i ≤ 68) → (if i = 58 then (.pointer (some ⟨sb, 0, none⟩)) else s i) = s0 i := fun i h1 => by rw [if_neg (by omega)]; exact h.rest i h1
  refine ⟨hr, (by simpa using h.q0), (by simpa using h.q1), (by simpa using h.q2), (by simpa using h.q3), (by simpa using h.q4), (by simpa using h.q5), (by simpa using h.q6), (fun _ => by simp), (by simpa using h.q8), (by simpa using h.q9), (by simpa using h.q10), (by simpa using h.q11), (by simpa using h.q12), (by simpa using h.q13), (by simpa using h.q14), (by simpa using h.q17), (by simpa using h.q15), (by simpa using h.e0), (by simpa using h.e1), (by simpa using h.e2), (by simpa using h.p16), (fun h17 i hi2 => by simp [h.p17 (by simpa using h17) i hi2]), (by simpa using h.p18), (by simpa using h.mem)⟩
theorem ApA.step8 {n sb P ib B j k : Nat} {val : Value} {xs : List Nat} {w0 : World} {s0 : Nat → Value} {L : Nat → Bool} {s : Nat → Value} {w : World} (h : ApA n sb P ib B j k val xs w0 s0 L s w) : ApA n sb P ib B j k val xs w0 s0 (fun i => L i || i == 8) (fun i => if i = 59 then (.pointer (some ⟨sb, 2, none⟩)) else s i) w := by
  have hr : ∀ i, ¬ (51 ≤ i ∧ i ≤ 68) → (if i = 59 then (.pointer (some ⟨sb, 2, none⟩)) else s i) = s0 i := fun i h1 => by rw [if_neg (by omega)]; exact h.rest i h1
  refine ⟨hr, (by simpa using h.q0), (by simpa using h.q1), (by simpa using h.q2), (by simpa using h.q3), (by simpa using h.q4), (by simpa using h.q5), (by simpa using h.q6), (by simpa using h.q7), (fun _ => by simp), (by simpa using h.q9), (by simpa using h.q10), (by simpa using h.q11), (by simpa using h.q12), (by simpa using h.q13), (by simpa using h.q14), (by simpa using h.q17), (by simpa using h.q15), (by simpa using h.e0), (by simpa using h.e1), (by simpa using h.e2), (by simpa using h.p16), (fun h17 i hi2 => by simp [h.p17 (by simpa using h17) i hi2]), (by simpa using h.p18), (by simpa using h.mem)⟩
theorem ApA.step9 {n sb P ib B j k : Nat} {val : Value} {xs : List Nat} {w0 : World} {s0 : Nat → Value} {L : Nat → Bool} {s : Nat → Value} {w : World} (h : ApA n sb P ib B j k val xs w0 s0 L s w) : ApA n sb P ib B j k val xs w0 s0 (fun i => L i || i == 9) (fun i => if i = 60 then (.slice (some ⟨ib, 0, none⟩) n n) else s i) w := by
  have hr : ∀ i, ¬ (51 ≤ i ∧ i ≤ 68) → (if i = 60 then (.slice (some ⟨ib, 0, none⟩) n n) else s i) = s0 i := fun i h1 => by rw [if_neg (by omega)]; exact h.rest i h1
  refine ⟨hr, (by simpa using h.q0), (by simpa using h.q1), (by simpa using h.q2), (by simpa using h.q3), (by simpa using h.q4), (by simpa using h.q5), (by simpa using h.q6), (by simpa using h.q7), (by simpa using h.q8), (fun _ => by simp), (by simpa using h.q10), (by simpa using h.q11), (by simpa using h.q12), (by simpa using h.q13), (by simpa using h.q14), (by simpa using h.q17), (by simpa using h.q15), (by simpa using h.e0), (by simpa using h.e1), (by simpa using h.e2), (by simpa using h.p16), (fun h17 i hi2 => by simp [h.p17 (by simpa using h17) i hi2]), (by simpa using h.p18), (by simpa using h.mem)⟩
theorem ApA.step10 {n sb P ib B j k : Nat} {val : Value} {xs : List Nat} {w0 : World} {s0 : Nat → Value} {L : Nat → Bool} {s : Nat → Value} {w : World} (h : ApA n sb P ib B j k val xs w0 s0 L s w) : ApA n sb P ib B j k val xs w0 s0 (fun i => L i || i == 10) (fun i => if i = 61 then (.pointer (some ⟨P, 1, none⟩)) else s i) w := by
  have hr : ∀ i, ¬ (51 ≤ i ∧ i ≤ 68) → (if i = 61 then (.pointer (some ⟨P, 1, none⟩)) else s i) = s0 i := fun i h1 => by rw [if_neg (by omega)]; exact h.rest i h1
  refine ⟨hr, (by simpa using h.q0), (by simpa using h.q1), (by simpa using h.q2), (by simpa using h.q3), (by simpa using h.q4), (by simpa using h.q5), (by simpa using h.q6), (by simpa using h.q7), (by simpa using h.q8), (by simpa using h.q9), (fun _ => by simp), (by simpa using h.q11), (by simpa using h.q12), (by simpa using h.q13), (by simpa using h.q14), (by simpa using h.q17), (by simpa using h.q15), (by simpa using h.e0), (by simpa using h.e1), (by simpa using h.e2), (by simpa using h.p16), (fun h17 i hi2 => by simp [h.p17 (by simpa using h17) i hi2]), (by simpa using h.p18), (by simpa using h.mem)⟩
theorem ApA.step11 {n sb P ib B j k : Nat} {val : Value} {xs : List Nat} {w0 : World} {s0 : Nat → Value} {L : Nat → Bool} {s : Nat → Value} {w : World} (h : ApA n sb P ib B j k val xs w0 s0 L s w) : ApA n sb P ib B j k val xs w0 s0 (fun i => L i || i == 11) (fun i => if i = 62 then (.int .i64 (j : Nat)) else s i) w := by
  have hr : ∀ i, ¬ (51 ≤ i ∧ i ≤ 68) → (if i = 62 then (.int .i64 (j : Nat)) else s i) = s0 i := fun i h1 => by rw [if_neg (by omega)]; exact h.rest i h1
  refine ⟨hr, (by simpa using h.q0), (by simpa using h.q1), (by simpa using h.q2), (by simpa using h.q3), (by simpa using h.q4), (by simpa using h.q5), (by simpa using h.q6), (by simpa using h.q7), (by simpa using h.q8), (by simpa using h.q9), (by simpa using h.q10), (fun _ => by simp), (by simpa using h.q12), (by simpa using h.q13), (by simpa using h.q14), (by simpa using h.q17), (by simpa using h.q15), (by simpa using h.e0), (by simpa using h.e1), (by simpa using h.e2), (by simpa using h.p16), (fun h17 i hi2 => by simp [h.p17 (by simpa using h17) i hi2]), (by simpa using h.p18), (by simpa using h.mem)⟩
theorem ApA.step12 {n sb P ib B j k : Nat} {val : Value} {xs : List Nat} {w0 : World} {s0 : Nat → Value} {L : Nat → Bool} {s : Nat → Value} {w : World} (h : ApA n sb P ib B j k val xs w0 s0 L s w) : ApA n sb P ib B j k val xs w0 s0 (fun i => L i || i == 12) (fun i => if i = 63 then (.pointer (some ⟨ib, j, none⟩)) else s i) w := by
  have hr : ∀ i, ¬ (51 ≤ i ∧ i ≤ 68) → (if i = 63 then (.pointer (some ⟨ib, j, none⟩)) else s i) = s0 i := fun i h1 => by rw [if_neg (by omega)]; exact h.rest i h1
  refine ⟨hr, (by simpa using h.q0), (by simpa using h.q1), (by simpa using h.q2), (by simpa using h.q3), (by simpa using h.q4), (by simpa using h.q5), (by simpa using h.q6), (by simpa using h.q7), (by simpa using h.q8), (by simpa using h.q9), (by simpa using h.q10), (by simpa using h.q11), (fun _ => by simp), (by simpa using h.q13), (by simpa using h.q14), (by simpa using h.q17), (by simpa using h.q15), (by simpa using h.e0), (by simpa using h.e1), (by simpa using h.e2), (by simpa using h.p16), (fun h17 i hi2 => by simp [h.p17 (by simpa using h17) i hi2]), (by simpa using h.p18), (by simpa using h.mem)⟩
theorem ApA.step13 {n sb P ib B j k : Nat} {val : Value} {xs : List Nat} {w0 : World} {s0 : Nat → Value} {L : Nat → Bool} {s : Nat → Value} {w : World} (h : ApA n sb P ib B j k val xs w0 s0 L s w) : ApA n sb P ib B j k val xs w0 s0 (fun i => L i || i == 13) (fun i => if i = 64 then val else s i) w := by
  have hr : ∀ i, ¬ (51 ≤ i ∧ i ≤ 68) → (if i = 64 then val else s i) = s0 i := fun i h1 => by rw [if_neg (by omega)]; exact h.rest i h1
  refine ⟨hr, (by simpa using h.q0), (by simpa using h.q1), (by simpa using h.q2), (by simpa using h.q3), (by simpa using h.q4), (by simpa using h.q5), (by simpa using h.q6), (by simpa using h.q7), (by simpa using h.q8), (by simpa using h.q9), (by simpa using h.q10), (by simpa using h.q11), (by simpa using h.q12), (fun _ => by simp), (by simpa using h.q14), (by simpa using h.q17), (by simpa using h.q15), (by simpa using h.e0), (by simpa using h.e1), (by simpa using h.e2), (by simpa using h.p16), (fun h17 i hi2 => by simp [h.p17 (by simpa using h17) i hi2]), (by simpa using h.p18), (by simpa using h.mem)⟩
theorem ApA.step14 {n sb P ib B j k : Nat} {val : Value} {xs : List Nat} {w0 : World} {s0 : Nat → Value} {L : Nat → Bool} {s : Nat → Value} {w : World} (h : ApA n sb P ib B j k val xs w0 s0 L s w) : ApA n sb P ib B j k val xs w0 s0 (fun i => L i || i == 14) (fun i => if i = 65 then (.int .i64 (k : Nat)) else s i) w := by
  have hr : ∀ i, ¬ (51 ≤ i ∧ i ≤ 68) → (if i = 65 then (.int .i64 (k : Nat)) else s i) = s0 i := fun i h1 => by rw [if_neg (by omega)]; exact h.rest i h1
  refine ⟨hr, (by simpa using h.q0), (by simpa using h.q1), (by simpa using h.q2), (by simpa using h.q3), (by simpa using h.q4), (by simpa using h.q5), (by simpa using h.q6), (by simpa using h.q7), (by simpa using h.q8), (by simpa using h.q9), (by simpa using h.q10), (by simpa using h.q11), (by simpa using h.q12), (by simpa using h.q13), (fun _ => by simp), (by simpa using h.q17), (by simpa using h.q15), (by simpa using h.e0), (by simpa using h.e1), (by simpa using h.e2), (by simpa using h.p16), (fun h17 i hi2 => by simp [h.p17 (by simpa using h17) i hi2]), (by simpa using h.p18), (by simpa using h.mem)⟩
theorem ApA.step17 {n sb P ib B j k : Nat} {val : Value} {xs : List Nat} {w0 : World} {s0 : Nat → Value} {L : Nat → Bool} {s : Nat → Value} {w : World} (h : ApA n sb P ib B j k val xs w0 s0 L s w) (hd : ∀ i, i < 17 → L i = true) : ApA n sb P ib B j k val xs w0 s0 (fun i => L i || i == 17) (fun i => if i = 68 then (.pointer (some ⟨ib, j, none⟩)) else s i) w := by
  have hr : ∀ i, ¬ (51 ≤ i ∧ i ≤ 68) → (if i = 68 then (.pointer (some ⟨ib, j, none⟩)) else s i) = s0 i := fun i h1 => by rw [if_neg (by omega)]; exact h.rest i h1
  refine ⟨hr, (by simpa using h.q0), (by simpa using h.q1), (by simpa using h.q2), (by simpa using h.q3), (by simpa using h.q4), (by simpa using h.q5), (by simpa using h.q6), (by simpa using h.q7), (by simpa using h.q8), (by simpa using h.q9), (by simpa using h.q10), (by simpa using h.q11), (by simpa using h.q12), (by simpa using h.q13), (by simpa using h.q14), (fun _ => by simp), (by simpa using h.q15), (by simpa using h.e0), (by simpa using h.e1), (by simpa using h.e2), (by simpa using h.p16), (fun _ i hi2 => by simp [hd i hi2]), (fun _ => by simp), (by simpa using h.mem)⟩
theorem ApA.step15 {n sb P ib B j k : Nat} {val : Value} {xs : List Nat} {w0 : World} {s0 : Nat → Value} {L : Nat → Bool} {s : Nat → Value} {w : World} (h : ApA n sb P ib B j k val xs w0 s0 L s w) (hi : L 15 = false) : ApA n sb P ib B j k val xs w0 s0 (fun i => L i || i == 15) (fun i => if i = 66 then (.slice (some ⟨w0.heap.size, 0, none⟩) 1 1) else s i) (w.alloc (.cells #[.int .i64 (k : Nat)] 3)) := by
  have hr : ∀ i, ¬ (51 ≤ i ∧ i ≤ 68) → (if i = 66 then (.slice (some ⟨w0.heap.size, 0, none⟩) 1 1) else s i) = s0 i := fun i h1 => by rw [if_neg (by omega)]; exact h.rest i h1
  refine ⟨hr, (by simpa using h.q0), (by simpa using h.q1), (by simpa using h.q2), (by simpa using h.q3), (by simpa using h.q4), (by simpa using h.q5), (by simpa using h.q6), (by simpa using h.q7), (by simpa using h.q8), (by simpa using h.q9), (by simpa using h.q10), (by simpa using h.q11), (by simpa using h.q12), (by simpa using h.q13), (by simpa using h.q14), (by simpa using h.q17), (fun _ => by simp), (fun _ h15 => by simp at h15), (fun h16 _ => by rw [h.e0 (by simpa using h16) hi]), (fun h16 => by
    have := h.p16 (by simpa using h16)
    rw [hi] at this
    cases this), (fun _ => by simp), (fun h17 i hi2 => by simp [h.p17 (by simpa using h17) i hi2]), (by simpa using h.p18), (fun h18 => by
    obtain ⟨m1, m2, m3, m4⟩ := h.mem (by simpa using h18)
    have e0 : ∀ b i v, w.cell? ⟨b, i, none⟩ = some v → (w.alloc (.cells #[.int .i64 (k : Nat)] 3)).cell? ⟨b, i, none⟩ = some v := fun b i v hv => (World.cell?_of_block (Below.heap_alloc w _ b (World.cell_lt hv))).trans hv
    exact ⟨e0 _ _ _ m1, e0 _ _ _ m2, e0 _ _ _ m3, (World.frozen?_of_block (Below.heap_alloc w _ ib (World.cell_lt m3))).trans m4⟩)⟩
theorem ApA.step16 {n sb P ib B j k : Nat} {val : Value} {xs : List Nat} {w0 : World} {s0 : Nat → Value} {L : Nat → Bool} {s : Nat → Value} {w : World} (h : ApA n sb P ib B j k val xs w0 s0 L s w) (hi : L 16 = false) (hd : L 15 = true) {g cap : Nat} {w3 : World} (hown : w3.ownsRow B 3 1 (.slice (some ⟨g, 0, none⟩) (xs.length + 1) cap) (xs.length + 1) (icells xs ++ [.int .i64 (k : Nat)])) (hs : Below B w0 w3) (hk : ∀ q, q < w0.heap.size → val.ownBlock ≠ some q → w3.heap[q]? = w0.heap[q]?) (hat : val.ownBlock = some g ∨ g = w0.heap.size + 1) (hlt : g < w3.heap.size)
    (hm : w3.cell? ⟨sb, 2, none⟩ = some (.slice (some ⟨ib, 0, none⟩) n n) ∧ w3.cell? ⟨P, 1, none⟩ = some (.int .i64 (j : Nat)) ∧ w3.cell? ⟨ib, j, none⟩ = some val ∧ w3.frozen? ⟨ib, j, none⟩ = false) : ApA n sb P ib B j k val xs w0 s0 (fun i => L i || i == 16) (fun i => if i = 67 then (.slice (some ⟨g, 0, none⟩) (xs.length + 1) cap) else s i) w3 := by
  have hr : ∀ i, ¬ (51 ≤ i ∧ i ≤ 68) → (if i = 67 then (.slice (some ⟨g, 0, none⟩) (xs.length + 1) cap) else s i) = s0 i := fun i h1 => by rw [if_neg (by omega)]; exact h.rest i h1
  refine ⟨hr, (by simpa using h.q0), (by simpa using h.q1), (by simpa using h.q2), (by simpa using h.q3), (by simpa using h.q4), (by simpa using h.q5), (by simpa using h.q6), (by simpa using h.q7), (by simpa using h.q8), (by simpa using h.q9), (by simpa using h.q10), (by simpa using h.q11), (by simpa using h.q12), (by simpa using h.q13), (by simpa using h.q14), (by simpa using h.q17), (by simpa using h.q15), (fun h16 => by simp at h16), (fun h16 => by simp at h16), (fun _ => ⟨g, cap, w3, hown, hs, hk, hat, hlt, by simp, fun _ => rfl, fun h18 => by
    have := h.p17 (h.p18 (by simpa using h18)) 16 (by omega)
    rw [hi] at this
    cases this⟩), (fun _ => by simpa using hd), (fun h17 i hi2 => by simp [h.p17 (by simpa using h17) i hi2]), (by simpa using h.p18), (fun _ => hm)⟩
theorem ApA.step18 {n sb P ib B j k : Nat} {val : Value} {xs : List Nat} {w0 : World} {s0 : Nat → Value} {L : Nat → Bool} {s : Nat → Value} {w : World} (h : ApA n sb P ib B j k val xs w0 s0 L s w) (hi : L 18 = false) (hd : L 17 = true) : ApA n sb P ib B j k val xs w0 s0 (fun i => L i || i == 18) s (w.setCell ⟨ib, j, none⟩ (s 67)) := by
  have hr := h.rest
  refine ⟨hr, (by simpa using h.q0), (by simpa using h.q1), (by simpa using h.q2), (by simpa using h.q3), (by simpa using h.q4), (by simpa using h.q5), (by simpa using h.q6), (by simpa using h.q7), (by simpa using h.q8), (by simpa using h.q9), (by simpa using h.q10), (by simpa using h.q11), (by simpa using h.q12), (by simpa using h.q13), (by simpa using h.q14), (by simpa using h.q17), (by simpa using h.q15), (fun h16 => by
    rw [show L 16 = true from h.p17 hd 16 (by omega)] at h16
    simp at h16), (fun h16 => by
    rw [show L 16 = true from h.p17 hd 16 (by omega)] at h16
    simp at h16), (fun _ => by
    obtain ⟨g, cap, w3, a1, a2, a3, a4, a5, a6, a7, a8⟩ := h.e2 (h.p17 hd 16 (by omega))
    exact ⟨g, cap, w3, a1, a2, a3, a4, a5, a6, fun h18 => by simp at h18, fun _ => by rw [a7 hi, a6]⟩), (by simpa using h.p16), (fun h17 i hi2 => by simp [h.p17 (by simpa using h17) i hi2]), (fun _ => by simpa using hd), (fun h18 => by simp at h18)⟩
def InvA (a0 : Act) (n sb P ib B j k : Nat) (val : Value) (xs : List Nat) (w0 : World) (listed : Array Bool) (a : Act) (w : World) : Prop :=
  ∃ s, a.tmps.size = a0.tmps.size ∧ a.defers = a0.defers ∧ (∀ i, a.tmps.getD i undef = s i) ∧ ApA n sb P ib B j k val xs w0 (fun i => a0.tmps.getD i undef) (fun i => listed.getD i false) s w
theorem InvA.put {a0 : Act} {n sb P ib B j k : Nat} {val : Value} {xs : List Nat} {w0 : World} {s : Nat → Value} {w : World} {listed : Array Bool} {a : Act} {i d : Nat} {v : Value} (hs : a.tmps.size = a0.tmps.size) (hf : a.defers = a0.defers) (he : ∀ k, a.tmps.getD k undef = s k) (hd : d < a0.tmps.size) (hi : i < listed.size)
    (h : ApA n sb P ib B j k val xs w0 (fun k => a0.tmps.getD k undef) (fun j => listed.getD j false || j == i) (fun k => if k = d then v else s k) w) : InvA a0 n sb P ib B j k val xs w0 (listed.setIfInBounds i true) (a.put (some d) v) w := by
  refine ⟨_, by simp [Act.put, hs], by simp [Act.put, hf], fun k => ?_, by rw [show (fun j => (listed.setIfInBounds i true).getD j false) = fun j => listed.getD j false || j == i from funext fun j => getD_listed listed i hi j]; exact h⟩
  rw [getD_put a d v (by omega), he]
theorem caseA_0 {a0 : Act} {n sb P ib B j k : Nat} {val : Value} {xs : List Nat} {w0 : World} {w : World} {listed : Array Bool} {a : Act} (hsz : 69 ≤ a0.tmps.size) (hl : listed.size = 19) (h : InvA a0 n sb P ib B j k val xs w0 listed a w) (h7 : a0.tmps.getD 7 undef = (.pointer (some ⟨sb, 0, none⟩)))
    {Q : Exit → Act → World → Prop} (K : Act → World → Prop) (hK : ∀ a' w', InvA a0 n sb P ib B j k val xs w0 (listed.setIfInBounds 0 true) a' w' → K a' w') : wpOp Try.prog opsA Q 0 K a w := by
  obtain ⟨s, hs, hf, he, hM⟩ := h
  refine wpOp_run (o := opsA[0]) (w' := w) (v := (.pointer (some ⟨sb, 0, none⟩))) rfl rfl ?_ (hK _ _ (InvA.put (d := 51) hs hf he (by omega) (by omega) hM.step0))
  refine (BigFrame.run_move (.tmp 7) rfl w).trans ?_
  have := hM.rest 7 (by omega)
  show Result.ok (Next.value (a.tmps.getD 7 undef)) w = _
  rw [he, this]
  rw [h7]
theorem caseA_1 {a0 : Act} {n sb P ib B j k : Nat} {val : Value} {xs : List Nat} {w0 : World} {w : World} {listed : Array Bool} {a : Act} (hsz : 69 ≤ a0.tmps.size) (hl : listed.size = 19) (h : InvA a0 n sb P ib B j k val xs w0 listed a w) (d0 : listed.getD 0 false = true)
    {Q : Exit → Act → World → Prop} (K : Act → World → Prop) (hK : ∀ a' w', InvA a0 n sb P ib B j k val xs w0 (listed.setIfInBounds 1 true) a' w' → K a' w') : wpOp Try.prog opsA Q 1 K a w := by
  obtain ⟨s, hs, hf, he, hM⟩ := h
  have x0 : a.tmps[51]?.getD undef = (.pointer (some ⟨sb, 0, none⟩)) := (Array.getD_eq_getD_getElem?.symm.trans (he 51)).trans (hM.q0 d0)
  refine wpOp_run (o := opsA[1]) (w' := w) (v := (.pointer (some ⟨sb, 0, none⟩))) rfl rfl ?_ (hK _ _ (InvA.put (d := 52) hs hf he (by omega) (by omega) hM.step1))
  simp [opsA, execOp, x0, go_sem]
theorem caseA_2 {a0 : Act} {n sb P ib B j k : Nat} {val : Value} {xs : List Nat} {w0 : World} {w : World} {listed : Array Bool} {a : Act} (hsz : 69 ≤ a0.tmps.size) (hl : listed.size = 19) (h : InvA a0 n sb P ib B j k val xs w0 listed a w) (d1 : listed.getD 1 false = true)
    {Q : Exit → Act → World → Prop} (K : Act → World → Prop) (hK : ∀ a' w', InvA a0 n sb P ib B j k val xs w0 (listed.setIfInBounds 2 true) a' w' → K a' w') : wpOp Try.prog opsA Q 2 K a w := by
  obtain ⟨s, hs, hf, he, hM⟩ := h
  have x1 : a.tmps[52]?.getD undef = (.pointer (some ⟨sb, 0, none⟩)) := (Array.getD_eq_getD_getElem?.symm.trans (he 52)).trans (hM.q1 d1)
  refine wpOp_run (o := opsA[2]) (w' := w) (v := (.pointer (some ⟨sb, 2, none⟩))) rfl rfl ?_ (hK _ _ (InvA.put (d := 53) hs hf he (by omega) (by omega) hM.step2))
  simp [opsA, execOp, x1, go_sem]
theorem caseA_3 {a0 : Act} {n sb P ib B j k : Nat} {val : Value} {xs : List Nat} {w0 : World} {w : World} {listed : Array Bool} {a : Act} (hsz : 69 ≤ a0.tmps.size) (hl : listed.size = 19) (h : InvA a0 n sb P ib B j k val xs w0 listed a w) (d2 : listed.getD 2 false = true) (h18 : listed.getD 18 false = false)
    {Q : Exit → Act → World → Prop} (K : Act → World → Prop) (hK : ∀ a' w', InvA a0 n sb P ib B j k val xs w0 (listed.setIfInBounds 3 true) a' w' → K a' w') : wpOp Try.prog opsA Q 3 K a w := by
  obtain ⟨s, hs, hf, he, hM⟩ := h
  have x2 : a.tmps[53]?.getD undef = (.pointer (some ⟨sb, 2, none⟩)) := (Array.getD_eq_getD_getElem?.symm.trans (he 53)).trans (hM.q2 d2)
  obtain ⟨m1, m2, -, -⟩ := hM.mem h18
  refine wpOp_run (o := opsA[3]) (w' := w) (v := (.slice (some ⟨ib, 0, none⟩) n n)) rfl rfl ?_ (hK _ _ (InvA.put (d := 54) hs hf he (by omega) (by omega) hM.step3))
  simp [opsA, execOp, x2, m1, go_sem]
theorem caseA_4 {a0 : Act} {n sb P ib B j k : Nat} {val : Value} {xs : List Nat} {w0 : World} {w : World} {listed : Array Bool} {a : Act} (hsz : 69 ≤ a0.tmps.size) (hl : listed.size = 19) (h : InvA a0 n sb P ib B j k val xs w0 listed a w) (h9 : a0.tmps.getD 9 undef = .pointer (some ⟨P, 0, none⟩))
    {Q : Exit → Act → World → Prop} (K : Act → World → Prop) (hK : ∀ a' w', InvA a0 n sb P ib B j k val xs w0 (listed.setIfInBounds 4 true) a' w' → K a' w') : wpOp Try.prog opsA Q 4 K a w := by
  obtain ⟨s, hs, hf, he, hM⟩ := h
  have x9 : a.tmps[9]?.getD undef = .pointer (some ⟨P, 0, none⟩) := (Array.getD_eq_getD_getElem?.symm.trans (he 9)).trans ((hM.rest 9 (by omega)).trans h9)
  refine wpOp_run (o := opsA[4]) (w' := w) (v := (.pointer (some ⟨P, 1, none⟩))) rfl rfl ?_ (hK _ _ (InvA.put (d := 55) hs hf he (by omega) (by omega) hM.step4))
  simp [opsA, execOp, x9, go_sem]
theorem caseA_5 {a0 : Act} {n sb P ib B j k : Nat} {val : Value} {xs : List Nat} {w0 : World} {w : World} {listed : Array Bool} {a : Act} (hsz : 69 ≤ a0.tmps.size) (hl : listed.size = 19) (h : InvA a0 n sb P ib B j k val xs w0 listed a w) (d4 : listed.getD 4 false = true) (h18 : listed.getD 18 false = false)
    {Q : Exit → Act → World → Prop} (K : Act → World → Prop) (hK : ∀ a' w', InvA a0 n sb P ib B j k val xs w0 (listed.setIfInBounds 5 true) a' w' → K a' w') : wpOp Try.prog opsA Q 5 K a w := by
  obtain ⟨s, hs, hf, he, hM⟩ := h
  have x4 : a.tmps[55]?.getD undef = (.pointer (some ⟨P, 1, none⟩)) := (Array.getD_eq_getD_getElem?.symm.trans (he 55)).trans (hM.q4 d4)
  obtain ⟨m1, m2, -, -⟩ := hM.mem h18
  refine wpOp_run (o := opsA[5]) (w' := w) (v := (.int .i64 (j : Nat))) rfl rfl ?_ (hK _ _ (InvA.put (d := 56) hs hf he (by omega) (by omega) hM.step5))
  simp [opsA, execOp, x4, m2, go_sem]
theorem caseA_6 {a0 : Act} {n sb P ib B j k : Nat} {val : Value} {xs : List Nat} {w0 : World} {w : World} {listed : Array Bool} {a : Act} (hsz : 69 ≤ a0.tmps.size) (hl : listed.size = 19) (h : InvA a0 n sb P ib B j k val xs w0 listed a w) (h7 : a0.tmps.getD 7 undef = (.pointer (some ⟨sb, 0, none⟩)))
    {Q : Exit → Act → World → Prop} (K : Act → World → Prop) (hK : ∀ a' w', InvA a0 n sb P ib B j k val xs w0 (listed.setIfInBounds 6 true) a' w' → K a' w') : wpOp Try.prog opsA Q 6 K a w := by
  obtain ⟨s, hs, hf, he, hM⟩ := h
  refine wpOp_run (o := opsA[6]) (w' := w) (v := (.pointer (some ⟨sb, 0, none⟩))) rfl rfl ?_ (hK _ _ (InvA.put (d := 57) hs hf he (by omega) (by omega) hM.step6))
  refine (BigFrame.run_move (.tmp 7) rfl w).trans ?_
  have := hM.rest 7 (by omega)
  show Result.ok (Next.value (a.tmps.getD 7 undef)) w = _
  rw [he, this]
  rw [h7]
theorem caseA_7 {a0 : Act} {n sb P ib B j k : Nat} {val : Value} {xs : List Nat} {w0 : World} {w : World} {listed : Array Bool} {a : Act} (hsz : 69 ≤ a0.tmps.size) (hl : listed.size = 19) (h : InvA a0 n sb P ib B j k val xs w0 listed a w) (d6 : listed.getD 6 false = true)
    {Q : Exit → Act → World → Prop} (K : Act → World → Prop) (hK : ∀ a' w', InvA a0 n sb P ib B j k val xs w0 (listed.setIfInBounds 7 true) a' w' → K a' w') : wpOp Try.prog opsA Q 7 K a w := by
  obtain ⟨s, hs, hf, he, hM⟩ := h
  have x6 : a.tmps[57]?.getD undef = (.pointer (some ⟨sb, 0, none⟩)) := (Array.getD_eq_getD_getElem?.symm.trans (he 57)).trans (hM.q6 d6)
  refine wpOp_run (o := opsA[7]) (w' := w) (v := (.pointer (some ⟨sb, 0, none⟩))) rfl rfl ?_ (hK _ _ (InvA.put (d := 58) hs hf he (by omega) (by omega) hM.step7))
  simp [opsA, execOp, x6, go_sem]
theorem caseA_8 {a0 : Act} {n sb P ib B j k : Nat} {val : Value} {xs : List Nat} {w0 : World} {w : World} {listed : Array Bool} {a : Act} (hsz : 69 ≤ a0.tmps.size) (hl : listed.size = 19) (h : InvA a0 n sb P ib B j k val xs w0 listed a w) (d7 : listed.getD 7 false = true)
    {Q : Exit → Act → World → Prop} (K : Act → World → Prop) (hK : ∀ a' w', InvA a0 n sb P ib B j k val xs w0 (listed.setIfInBounds 8 true) a' w' → K a' w') : wpOp Try.prog opsA Q 8 K a w := by
  obtain ⟨s, hs, hf, he, hM⟩ := h
  have x7 : a.tmps[58]?.getD undef = (.pointer (some ⟨sb, 0, none⟩)) := (Array.getD_eq_getD_getElem?.symm.trans (he 58)).trans (hM.q7 d7)
  refine wpOp_run (o := opsA[8]) (w' := w) (v := (.pointer (some ⟨sb, 2, none⟩))) rfl rfl ?_ (hK _ _ (InvA.put (d := 59) hs hf he (by omega) (by omega) hM.step8))
  simp [opsA, execOp, x7, go_sem]
theorem caseA_9 {a0 : Act} {n sb P ib B j k : Nat} {val : Value} {xs : List Nat} {w0 : World} {w : World} {listed : Array Bool} {a : Act} (hsz : 69 ≤ a0.tmps.size) (hl : listed.size = 19) (h : InvA a0 n sb P ib B j k val xs w0 listed a w) (d8 : listed.getD 8 false = true) (h18 : listed.getD 18 false = false)
    {Q : Exit → Act → World → Prop} (K : Act → World → Prop) (hK : ∀ a' w', InvA a0 n sb P ib B j k val xs w0 (listed.setIfInBounds 9 true) a' w' → K a' w') : wpOp Try.prog opsA Q 9 K a w := by
  obtain ⟨s, hs, hf, he, hM⟩ := h
  have x8 : a.tmps[59]?.getD undef = (.pointer (some ⟨sb, 2, none⟩)) := (Array.getD_eq_getD_getElem?.symm.trans (he 59)).trans (hM.q8 d8)
  obtain ⟨m1, m2, -, -⟩ := hM.mem h18
  refine wpOp_run (o := opsA[9]) (w' := w) (v := (.slice (some ⟨ib, 0, none⟩) n n)) rfl rfl ?_ (hK _ _ (InvA.put (d := 60) hs hf he (by omega) (by omega) hM.step9))
  simp [opsA, execOp, x8, m1, go_sem]
theorem caseA_10 {a0 : Act} {n sb P ib B j k : Nat} {val : Value} {xs : List Nat} {w0 : World} {w : World} {listed : Array Bool} {a : Act} (hsz : 69 ≤ a0.tmps.size) (hl : listed.size = 19) (h : InvA a0 n sb P ib B j k val xs w0 listed a w) (h9 : a0.tmps.getD 9 undef = .pointer (some ⟨P, 0, none⟩))
    {Q : Exit → Act → World → Prop} (K : Act → World → Prop) (hK : ∀ a' w', InvA a0 n sb P ib B j k val xs w0 (listed.setIfInBounds 10 true) a' w' → K a' w') : wpOp Try.prog opsA Q 10 K a w := by
  obtain ⟨s, hs, hf, he, hM⟩ := h
  have x9 : a.tmps[9]?.getD undef = .pointer (some ⟨P, 0, none⟩) := (Array.getD_eq_getD_getElem?.symm.trans (he 9)).trans ((hM.rest 9 (by omega)).trans h9)
  refine wpOp_run (o := opsA[10]) (w' := w) (v := (.pointer (some ⟨P, 1, none⟩))) rfl rfl ?_ (hK _ _ (InvA.put (d := 61) hs hf he (by omega) (by omega) hM.step10))
  simp [opsA, execOp, x9, go_sem]
theorem caseA_11 {a0 : Act} {n sb P ib B j k : Nat} {val : Value} {xs : List Nat} {w0 : World} {w : World} {listed : Array Bool} {a : Act} (hsz : 69 ≤ a0.tmps.size) (hl : listed.size = 19) (h : InvA a0 n sb P ib B j k val xs w0 listed a w) (d10 : listed.getD 10 false = true) (h18 : listed.getD 18 false = false)
    {Q : Exit → Act → World → Prop} (K : Act → World → Prop) (hK : ∀ a' w', InvA a0 n sb P ib B j k val xs w0 (listed.setIfInBounds 11 true) a' w' → K a' w') : wpOp Try.prog opsA Q 11 K a w := by
  obtain ⟨s, hs, hf, he, hM⟩ := h
  have x10 : a.tmps[61]?.getD undef = (.pointer (some ⟨P, 1, none⟩)) := (Array.getD_eq_getD_getElem?.symm.trans (he 61)).trans (hM.q10 d10)
  obtain ⟨m1, m2, -, -⟩ := hM.mem h18
  refine wpOp_run (o := opsA[11]) (w' := w) (v := (.int .i64 (j : Nat))) rfl rfl ?_ (hK _ _ (InvA.put (d := 62) hs hf he (by omega) (by omega) hM.step11))
  simp [opsA, execOp, x10, m2, go_sem]
theorem caseA_12 {a0 : Act} {n sb P ib B j k : Nat} {val : Value} {xs : List Nat} {w0 : World} {w : World} {listed : Array Bool} {a : Act} (hsz : 69 ≤ a0.tmps.size) (hl : listed.size = 19) (h : InvA a0 n sb P ib B j k val xs w0 listed a w) (d9 : listed.getD 9 false = true) (d11 : listed.getD 11 false = true) (hj : (j : Int) < (n : Int))
    {Q : Exit → Act → World → Prop} (K : Act → World → Prop) (hK : ∀ a' w', InvA a0 n sb P ib B j k val xs w0 (listed.setIfInBounds 12 true) a' w' → K a' w') : wpOp Try.prog opsA Q 12 K a w := by
  obtain ⟨s, hs, hf, he, hM⟩ := h
  have x9 : a.tmps[60]?.getD undef = (.slice (some ⟨ib, 0, none⟩) n n) := (Array.getD_eq_getD_getElem?.symm.trans (he 60)).trans (hM.q9 d9)
  have x11 : a.tmps[62]?.getD undef = (.int .i64 (j : Nat)) := (Array.getD_eq_getD_getElem?.symm.trans (he 62)).trans (hM.q11 d11)
  have hj0 : (0 : Int) ≤ (j : Int) := Int.natCast_nonneg j
  refine wpOp_run (o := opsA[12]) (w' := w) (v := (.pointer (some ⟨ib, j, none⟩))) rfl rfl ?_ (hK _ _ (InvA.put (d := 63) hs hf he (by omega) (by omega) hM.step12))
  simp [opsA, execOp, x9, x11, hj, go_sem]
theorem caseA_13 {a0 : Act} {n sb P ib B j k : Nat} {val : Value} {xs : List Nat} {w0 : World} {w : World} {listed : Array Bool} {a : Act} (hsz : 69 ≤ a0.tmps.size) (hl : listed.size = 19) (h : InvA a0 n sb P ib B j k val xs w0 listed a w) (d12 : listed.getD 12 false = true) (h18 : listed.getD 18 false = false)
    {Q : Exit → Act → World → Prop} (K : Act → World → Prop) (hK : ∀ a' w', InvA a0 n sb P ib B j k val xs w0 (listed.setIfInBounds 13 true) a' w' → K a' w') : wpOp Try.prog opsA Q 13 K a w := by
  obtain ⟨s, hs, hf, he, hM⟩ := h
  have x12 : a.tmps[63]?.getD undef = (.pointer (some ⟨ib, j, none⟩)) := (Array.getD_eq_getD_getElem?.symm.trans (he 63)).trans (hM.q12 d12)
  obtain ⟨-, -, m3, -⟩ := hM.mem h18
  refine wpOp_run (o := opsA[13]) (w' := w) (v := val) rfl rfl ?_ (hK _ _ (InvA.put (d := 64) hs hf he (by omega) (by omega) hM.step13))
  simp [opsA, execOp, x12, m3, go_sem]
theorem caseA_14 {a0 : Act} {n sb P ib B j k : Nat} {val : Value} {xs : List Nat} {w0 : World} {w : World} {listed : Array Bool} {a : Act} (hsz : 69 ≤ a0.tmps.size) (hl : listed.size = 19) (h : InvA a0 n sb P ib B j k val xs w0 listed a w) (h8 : a0.tmps.getD 8 undef = (.int .i64 (k : Nat)))
    {Q : Exit → Act → World → Prop} (K : Act → World → Prop) (hK : ∀ a' w', InvA a0 n sb P ib B j k val xs w0 (listed.setIfInBounds 14 true) a' w' → K a' w') : wpOp Try.prog opsA Q 14 K a w := by
  obtain ⟨s, hs, hf, he, hM⟩ := h
  refine wpOp_run (o := opsA[14]) (w' := w) (v := (.int .i64 (k : Nat))) rfl rfl ?_ (hK _ _ (InvA.put (d := 65) hs hf he (by omega) (by omega) hM.step14))
  refine (BigFrame.run_move (.tmp 8) rfl w).trans ?_
  have := hM.rest 8 (by omega)
  show Result.ok (Next.value (a.tmps.getD 8 undef)) w = _
  rw [he, this]
  rw [h8]
theorem caseA_17 {a0 : Act} {n sb P ib B j k : Nat} {val : Value} {xs : List Nat} {w0 : World} {w : World} {listed : Array Bool} {a : Act} (hsz : 69 ≤ a0.tmps.size) (hl : listed.size = 19) (h : InvA a0 n sb P ib B j k val xs w0 listed a w) (d3 : listed.getD 3 false = true) (d5 : listed.getD 5 false = true) (hj : (j : Int) < (n : Int)) (dall : ∀ i, i < 17 → listed.getD i false = true)
    {Q : Exit → Act → World → Prop} (K : Act → World → Prop) (hK : ∀ a' w', InvA a0 n sb P ib B j k val xs w0 (listed.setIfInBounds 17 true) a' w' → K a' w') : wpOp Try.prog opsA Q 17 K a w := by
  obtain ⟨s, hs, hf, he, hM⟩ := h
  have x3 : a.tmps[54]?.getD undef = (.slice (some ⟨ib, 0, none⟩) n n) := (Array.getD_eq_getD_getElem?.symm.trans (he 54)).trans (hM.q3 d3)
  have x5 : a.tmps[56]?.getD undef = (.int .i64 (j : Nat)) := (Array.getD_eq_getD_getElem?.symm.trans (he 56)).trans (hM.q5 d5)
  have hj0 : (0 : Int) ≤ (j : Int) := Int.natCast_nonneg j
  refine wpOp_run (o := opsA[17]) (w' := w) (v := (.pointer (some ⟨ib, j, none⟩))) rfl rfl ?_ (hK _ _ (InvA.put (d := 68) hs hf he (by omega) (by omega) (hM.step17 dall)))
  simp [opsA, execOp, x3, x5, hj, go_sem]
theorem caseA_15 {a0 : Act} {n sb P ib B j k : Nat} {val : Value} {xs : List Nat} {w0 : World} {w : World} {listed : Array Bool} {a : Act} (hsz : 69 ≤ a0.tmps.size) (hl : listed.size = 19) (h : InvA a0 n sb P ib B j k val xs w0 listed a w) (d14 : listed.getD 14 false = true) (hi : listed.getD 15 false = false)
    {Q : Exit → Act → World → Prop} (K : Act → World → Prop) (hK : ∀ a' w', InvA a0 n sb P ib B j k val xs w0 (listed.setIfInBounds 15 true) a' w' → K a' w') : wpOp Try.prog opsA Q 15 K a w := by
  obtain ⟨s, hs, hf, he, hM⟩ := h
  have x14 : a.tmps[65]?.getD undef = (.int .i64 (k : Nat)) := (Array.getD_eq_getD_getElem?.symm.trans (he 65)).trans (hM.q14 d14)
  have h16 : listed.getD 16 false = false := by
    cases hc : listed.getD 16 false with
    | false => rfl
    | true =>
      have := hM.p16 hc
      rw [hi] at this
      cases this
  have hw := hM.e0 h16 hi
  refine wpOp_run (o := opsA[15]) (w' := w.alloc (.cells #[.int .i64 (k : Nat)] 3)) (v := (.slice (some ⟨w0.heap.size, 0, none⟩) 1 1)) rfl rfl ?_ (hK _ _ (InvA.put (d := 66) hs hf he (by omega) (by omega) (hM.step15 hi)))
  rw [← hw]
  simp [opsA, execOp, x14, go_sem]
theorem caseA_16 {a0 : Act} {n sb P ib B j k : Nat} {val : Value} {xs : List Nat} {w0 : World} {w : World} {listed : Array Bool} {a : Act} (hsz : 69 ≤ a0.tmps.size) (hl : listed.size = 19) (h : InvA a0 n sb P ib B j k val xs w0 listed a w) (d13 : listed.getD 13 false = true) (d15 : listed.getD 15 false = true) (hi : listed.getD 16 false = false)
    (hown : w0.ownsRow B 3 1 val xs.length (icells xs)) (hsb : sb < B) (hib : ib < B) (hP : val.ownBlock ≠ some P) (hB : B ≤ w0.heap.size) (hlen : xs.length ≤ 16777216)
    {Q : Exit → Act → World → Prop} (K : Act → World → Prop) (hK : ∀ a' w', InvA a0 n sb P ib B j k val xs w0 (listed.setIfInBounds 16 true) a' w' → K a' w') : wpOp Try.prog opsA Q 16 K a w := by
  obtain ⟨s, hs, hf, he, hM⟩ := h
  have x13 : a.eval (.tmp 64) = val := (he 64).trans (hM.q13 d13)
  have x15 : a.eval (.tmp 66) = (.slice (some ⟨w0.heap.size, 0, none⟩) 1 1) := (he 66).trans (hM.q15 d15)
  have hw := hM.e1 hi d15
  have h18 : listed.getD 18 false = false := by
    cases hc : listed.getD 18 false with
    | false => rfl
    | true =>
      have := hM.p17 (hM.p18 hc) 16 (by omega)
      rw [hi] at this
      cases this
  obtain ⟨m1, m2, m3, m4⟩ := hM.mem h18
  obtain ⟨i0, hi0, hz0, hz1, hz2⟩ := info_parts int_info
  have hblk : ∀ q, val.ownBlock = some q → B ≤ q ∧ q < w0.heap.size := ownsRow_block hown
  subst hw
  obtain ⟨g, cap, w3, hr, h2, h3, h4, h5⟩ := run_append_lies (P := Try.prog) (w0.alloc (.cells #[.int .i64 (k : Nat)] 3)) 51 51 B 3 i0 _ 1 8 Try.underlying51 hi0 hz0 hz1 hz2 rfl (by omega) val xs.length (icells xs) (hown.alloc _)
    ⟨w0.heap.size, 0, none⟩ 1 1 [.int .i64 (k : Nat)] rfl (World.news_of_block (cs := #[.int .i64 (k : Nat)]) (t := 3) (fr := (0, 0)) (heap_alloc_new w0 _)) (by simp [Value.oneCell']) (by omega) (by unfold maxLen; omega) (by omega) (by simp; omega) (w0.heap.size + 1) (by simp)
  have hk : ∀ q, q < w0.heap.size → val.ownBlock ≠ some q → w3.heap[q]? = (w0.alloc (.cells #[.int .i64 (k : Nat)] 3)).heap[q]? := fun q hq hne => h3.block q (by simp; omega) (Ne.symm hne)
  have hk0 : ∀ q, q < w0.heap.size → val.ownBlock ≠ some q → w3.heap[q]? = w0.heap[q]? := fun q hq hne => (hk q hq hne).trans (Below.heap_alloc w0 _ q hq)
  have hPw : val.ownBlock ≠ some P := hP
  have hPl : P < (w0.alloc (.cells #[.int .i64 (k : Nat)] 3)).heap.size := World.cell_lt m2
  have hk2 : ∀ q, q < (w0.alloc (.cells #[.int .i64 (k : Nat)] 3)).heap.size → val.ownBlock ≠ some q → w3.heap[q]? = (w0.alloc (.cells #[.int .i64 (k : Nat)] 3)).heap[q]? := fun q hq hne => h3.block q hq (Ne.symm hne)
  have nsb : val.ownBlock ≠ some sb := fun e => by have := (hblk _ e).1; omega
  have nib : val.ownBlock ≠ some ib := fun e => by have := (hblk _ e).1; omega
  have hsz3 : Below B w0 w3 := ((Below.refl B w0).alloc hB _).grown h3 (by simp; omega) (fun q e => (hblk q e).1)
  refine wpOp_run (o := opsA[16]) (w' := w3) (v := .slice (some ⟨g, 0, none⟩) (xs.length + 1) cap) rfl rfl ?_ (hK _ _ (InvA.put (d := 67) hs hf he (by omega) (by omega) (hM.step16 hi d15 h2 hsz3 hk0 h4 h5 ⟨?_, ?_, ?_, ?_⟩)))
  · unfold execOp
    simp only [opsA, List.getElem_toArray, List.getElem_cons_succ, List.getElem_cons_zero, resolve, invoke, builtin, Sem.run_bind, Sem.run_pure, Result.andThen_ok, List.map_toArray, List.map_cons, List.map_nil, x13, x15, hr]
  · exact (World.cell?_of_block (hk2 _ (World.cell_lt m1) nsb)).trans m1
  · exact (World.cell?_of_block (hk2 _ hPl hPw)).trans m2
  · exact (World.cell?_of_block (hk2 _ (World.cell_lt m3) nib)).trans m3
  · exact (World.frozen?_of_block (hk2 _ (World.cell_lt m3) nib)).trans m4
theorem caseA_18 {a0 : Act} {n sb P ib B j k : Nat} {val : Value} {xs : List Nat} {w0 : World} {w : World} {listed : Array Bool} {a : Act} (_hsz : 69 ≤ a0.tmps.size) (hl : listed.size = 19) (h : InvA a0 n sb P ib B j k val xs w0 listed a w) (d17 : listed.getD 17 false = true) (d16 : listed.getD 16 false = true) (hi : listed.getD 18 false = false)
    {Q : Exit → Act → World → Prop} (K : Act → World → Prop) (hK : ∀ a' w', InvA a0 n sb P ib B j k val xs w0 (listed.setIfInBounds 18 true) a' w' → K a' w') : wpOp Try.prog opsA Q 18 K a w := by
  obtain ⟨s, hs, hf, he, hM⟩ := h
  have x17 : a.tmps[68]?.getD undef = (.pointer (some ⟨ib, j, none⟩)) := (Array.getD_eq_getD_getElem?.symm.trans (he 68)).trans (hM.q17 d17)
  obtain ⟨-, -, m3, m4⟩ := hM.mem hi
  obtain ⟨g, cap, w3, -, -, -, -, -, b6, -, -⟩ := hM.e2 d16
  have x16 : a.tmps[67]?.getD undef = .slice (some ⟨g, 0, none⟩) (xs.length + 1) cap := (Array.getD_eq_getD_getElem?.symm.trans (he 67)).trans b6
  have hM2 := hM.step18 hi d17
  rw [b6] at hM2
  refine wpOp_skip (o := opsA[18]) (w' := w.setCell ⟨ib, j, none⟩ (.slice (some ⟨g, 0, none⟩) (xs.length + 1) cap)) rfl rfl rfl ?_ (hK _ _ ⟨s, hs, hf, he, by rw [show (fun j => (listed.setIfInBounds 18 true).getD j false) = fun j => listed.getD j false || j == 18 from funext fun j => getD_listed listed 18 (by omega) j]; exact hM2⟩)
  simp [opsA, execOp, x17, x16, m3, m4, go_sem]
theorem no18_A {a0 : Act} {n sb P ib B j k : Nat} {val : Value} {xs : List Nat} {w0 : World} {w : World} {listed : Array Bool} {a : Act} (h : InvA a0 n sb P ib B j k val xs w0 listed a w) (i : Nat) (hi : i < 17) (hf : listed.getD i false = false) : listed.getD 18 false = false := by
  obtain ⟨s, -, -, -, hM⟩ := h
  cases hc : listed.getD 18 false with
  | false => rfl
  | true =>
    have := hM.p17 (hM.p18 hc) i hi
    rw [hf] at this
    cases this
theorem seventeenA (x : Nat) (hx : x < 17) : ∃ e : Edge, e ∈ opsA[17].after ∧ e.on = x ∧ Region.binds .any e = true := by
  have hc : x = 0 ∨ x = 1 ∨ x = 2 ∨ x = 3 ∨ x = 4 ∨ x = 5 ∨ x = 6 ∨ x = 7 ∨ x = 8 ∨ x = 9 ∨ x = 10 ∨ x = 11 ∨ x = 12 ∨ x = 13 ∨ x = 14 ∨ x = 15 ∨ x = 16 := by omega
  rcases hc with rfl | rfl | rfl | rfl | rfl | rfl | rfl | rfl | rfl | rfl | rfl | rfl | rfl | rfl | rfl | rfl | rfl <;> exact ⟨⟨_, Ground.phase⟩, by simp [opsA], rfl, rfl⟩
set_option maxHeartbeats 2000000 in
theorem app_regionA (a0 : Act) (w1 : World) (n sb P ib B j k : Nat) (val : Value) (xs : List Nat) (hsz : 69 ≤ a0.tmps.size)
    (h7 : a0.tmps.getD 7 undef = .pointer (some ⟨sb, 0, none⟩)) (h8 : a0.tmps.getD 8 undef = .int .i64 (k : Nat)) (h9 : a0.tmps.getD 9 undef = .pointer (some ⟨P, 0, none⟩))
    (cS : w1.cell? ⟨sb, 2, none⟩ = some (.slice (some ⟨ib, 0, none⟩) n n)) (cP : w1.cell? ⟨P, 1, none⟩ = some (.int .i64 (j : Nat))) (cI : w1.cell? ⟨ib, j, none⟩ = some val) (fI : w1.frozen? ⟨ib, j, none⟩ = false)
    (hown0 : w1.ownsRow B 3 1 val xs.length (icells xs)) (hsb : sb < B) (hib : ib < B) (hP : val.ownBlock ≠ some P) (hB0 : B ≤ w1.heap.size) (hjn : j < n) (hlen : xs.length ≤ 16777216)
    (id : Nat) (Q : Exit → Act → World → Prop)
    (hQ : ∀ (g cap : Nat) (w3 : World) (x : Nat → Value), w3.ownsRow B 3 1 (.slice (some ⟨g, 0, none⟩) (xs.length + 1) cap) (xs.length + 1) (icells xs ++ [.int .i64 (k : Nat)]) → Below B w1 w3 → (∀ q, q < w1.heap.size → val.ownBlock ≠ some q → w3.heap[q]? = w1.heap[q]?) → (val.ownBlock = some g ∨ g = w1.heap.size + 1) → g < w3.heap.size →
      Q .normal ((((((((((((((((((a0.put (some 51) (x 51)).put (some 52) (x 52)).put (some 53) (x 53)).put (some 54) (x 54)).put (some 55) (x 55)).put (some 56) (x 56)).put (some 57) (x 57)).put (some 58) (x 58)).put (some 59) (x 59)).put (some 60) (x 60)).put (some 61) (x 61)).put (some 62) (x 62)).put (some 63) (x 63)).put (some 64) (x 64)).put (some 65) (x 65)).put (some 66) (x 66)).put (some 67) (x 67)).put (some 68) (x 68)) (w3.setCell ⟨ib, j, none⟩ (.slice (some ⟨g, 0, none⟩) (xs.length + 1) cap))) : (Code.region id opsA true).wp Try.prog Q a0 w1 := by
  have hj : (j : Int) < (n : Int) := by omega
  have hown : w1.drew.ownsRow B 3 1 val xs.length (icells xs) := hown0.drew
  have hB : B ≤ w1.drew.heap.size := hB0
  refine wp_region_any (by kernel_rfl) (wpAny_inv (InvA a0 n sb P ib B j k val xs w1.drew) ?_ ?_ opsA.size _ a0 _ (by simp) (by simp [opsA]) ?_)
  · intro listed a w i hls h hi K hK
    have hl : listed.size = 19 := hls
    obtain ⟨hff, o, ho, hdep0⟩ := mem_ready.1 hi
    have hf := false_of listed i hff
    have hi19 : i < 19 := by
      rcases Nat.lt_or_ge i 19 with h' | h'
      · exact h'
      · have : opsA[i]? = none := Array.getElem?_eq_none h'
        rw [this] at ho; cases ho
    have hdep : ∀ (o' : Oper), opsA[i]? = some o' → ∀ e ∈ o'.after, Region.binds .any e = true → listed.getD e.on false = true := fun o' ho' e he hb => by
      rw [ho] at ho'
      have := Option.some.inj ho'
      subst this
      exact hdep0 e he hb
    have hc : i = 0 ∨ i = 1 ∨ i = 2 ∨ i = 3 ∨ i = 4 ∨ i = 5 ∨ i = 6 ∨ i = 7 ∨ i = 8 ∨ i = 9 ∨ i = 10 ∨ i = 11 ∨ i = 12 ∨ i = 13 ∨ i = 14 ∨ i = 15 ∨ i = 16 ∨ i = 17 ∨ i = 18 := by omega
    clear hdep0 ho hi hff
    rcases hc with rfl | rfl | rfl | rfl | rfl | rfl | rfl | rfl | rfl | rfl | rfl | rfl | rfl | rfl | rfl | rfl | rfl | rfl | rfl
    · exact caseA_0 hsz hl h h7 K hK
    · have hd : ∀ j, (⟨j, Ground.data⟩ : Edge) ∈ opsA[1].after → listed.getD j false = true := fun j hj => hdep _ rfl _ hj rfl
      exact caseA_1 hsz hl h (hd 0 (by simp [opsA])) K hK
    · have hd : ∀ j, (⟨j, Ground.data⟩ : Edge) ∈ opsA[2].after → listed.getD j false = true := fun j hj => hdep _ rfl _ hj rfl
      exact caseA_2 hsz hl h (hd 1 (by simp [opsA])) K hK
    · have hd : ∀ j, (⟨j, Ground.data⟩ : Edge) ∈ opsA[3].after → listed.getD j false = true := fun j hj => hdep _ rfl _ hj rfl
      exact caseA_3 hsz hl h (hd 2 (by simp [opsA])) (no18_A h 3 (by omega) hf) K hK
    · exact caseA_4 hsz hl h h9 K hK
    · have hd : ∀ j, (⟨j, Ground.data⟩ : Edge) ∈ opsA[5].after → listed.getD j false = true := fun j hj => hdep _ rfl _ hj rfl
      exact caseA_5 hsz hl h (hd 4 (by simp [opsA])) (no18_A h 5 (by omega) hf) K hK
    · exact caseA_6 hsz hl h h7 K hK
    · have hd : ∀ j, (⟨j, Ground.data⟩ : Edge) ∈ opsA[7].after → listed.getD j false = true := fun j hj => hdep _ rfl _ hj rfl
      exact caseA_7 hsz hl h (hd 6 (by simp [opsA])) K hK
    · have hd : ∀ j, (⟨j, Ground.data⟩ : Edge) ∈ opsA[8].after → listed.getD j false = true := fun j hj => hdep _ rfl _ hj rfl
      exact caseA_8 hsz hl h (hd 7 (by simp [opsA])) K hK
    · have hd : ∀ j, (⟨j, Ground.data⟩ : Edge) ∈ opsA[9].after → listed.getD j false = true := fun j hj => hdep _ rfl _ hj rfl
      exact caseA_9 hsz hl h (hd 8 (by simp [opsA])) (no18_A h 9 (by omega) hf) K hK
    · exact caseA_10 hsz hl h h9 K hK
    · have hd : ∀ j, (⟨j, Ground.data⟩ : Edge) ∈ opsA[11].after → listed.getD j false = true := fun j hj => hdep _ rfl _ hj rfl
      exact caseA_11 hsz hl h (hd 10 (by simp [opsA])) (no18_A h 11 (by omega) hf) K hK
    · have hd : ∀ j, (⟨j, Ground.data⟩ : Edge) ∈ opsA[12].after → listed.getD j false = true := fun j hj => hdep _ rfl _ hj rfl
      exact caseA_12 hsz hl h (hd 9 (by simp [opsA])) (hd 11 (by simp [opsA])) hj K hK
    · have hd : ∀ j, (⟨j, Ground.data⟩ : Edge) ∈ opsA[13].after → listed.getD j false = true := fun j hj => hdep _ rfl _ hj rfl
      exact caseA_13 hsz hl h (hd 12 (by simp [opsA])) (no18_A h 13 (by omega) hf) K hK
    · exact caseA_14 hsz hl h h8 K hK
    · have hd : ∀ j, (⟨j, Ground.data⟩ : Edge) ∈ opsA[15].after → listed.getD j false = true := fun j hj => hdep _ rfl _ hj rfl
      exact caseA_15 hsz hl h (hd 14 (by simp [opsA])) hf K hK
    · have hd : ∀ j, (⟨j, Ground.data⟩ : Edge) ∈ opsA[16].after → listed.getD j false = true := fun j hj => hdep _ rfl _ hj rfl
      exact caseA_16 hsz hl h (hd 13 (by simp [opsA])) (hd 15 (by simp [opsA])) hf hown hsb hib hP hB hlen K hK
    · have hd : ∀ j, (⟨j, Ground.data⟩ : Edge) ∈ opsA[17].after → listed.getD j false = true := fun j hj => hdep _ rfl _ hj rfl
      exact caseA_17 hsz hl h (hd 3 (by simp [opsA])) (hd 5 (by simp [opsA])) hj (fun x hx => by obtain ⟨e, he, rfl, hb⟩ := seventeenA x hx; exact hdep _ rfl e he hb) K hK
    · have hd : ∀ j, (⟨j, Ground.data⟩ : Edge) ∈ opsA[18].after → listed.getD j false = true := fun j hj => hdep _ rfl _ hj rfl
      exact caseA_18 hsz hl h (hd 17 (by simp [opsA])) (hd 16 (by simp [opsA])) hf K hK
  · intro listed a w hls h hr
    have hl : listed.size = 19 := hls
    have l0 : listed.getD 0 false = true := by
      cases hc : listed.getD 0 false with
      | true => rfl
      | false =>
        have ha : ∀ e ∈ opsA[0].after, listed.getD e.on false = true := by
          intro e he
          have ho : e.on ∈ opsA[0].after.toList.map (·.on) := List.mem_map.2 ⟨e, Array.mem_toList_iff.2 he, rfl⟩
          have hll : opsA[0].after.toList.map (·.on) = [] := rfl
          rw [hll] at ho
          generalize e.on = j at ho
          cases ho
          skip
        have hm : 0 ∈ Region.ready .any opsA listed := mem_ready.2 ⟨true_of listed 0 (by omega) hc, _, rfl, fun e he _ => ha e he⟩
        rw [hr] at hm
        cases hm
    have l1 : listed.getD 1 false = true := by
      cases hc : listed.getD 1 false with
      | true => rfl
      | false =>
        have ha : ∀ e ∈ opsA[1].after, listed.getD e.on false = true := by
          intro e he
          have ho : e.on ∈ opsA[1].after.toList.map (·.on) := List.mem_map.2 ⟨e, Array.mem_toList_iff.2 he, rfl⟩
          have hll : opsA[1].after.toList.map (·.on) = [0] := rfl
          rw [hll] at ho
          generalize e.on = j at ho
          simp at ho
          subst ho; assumption
        have hm : 1 ∈ Region.ready .any opsA listed := mem_ready.2 ⟨true_of listed 1 (by omega) hc, _, rfl, fun e he _ => ha e he⟩
        rw [hr] at hm
        cases hm
    have l2 : listed.getD 2 false = true := by
      cases hc : listed.getD 2 false with
      | true => rfl
      | false =>
        have ha : ∀ e ∈ opsA[2].after, listed.getD e.on false = true := by
          intro e he
          have ho : e.on ∈ opsA[2].after.toList.map (·.on) := List.mem_map.2 ⟨e, Array.mem_toList_iff.2 he, rfl⟩
          have hll : opsA[2].after.toList.map (·.on) = [1] := rfl
          rw [hll] at ho
          generalize e.on = j at ho
          simp at ho
          subst ho; assumption
        have hm : 2 ∈ Region.ready .any opsA listed := mem_ready.2 ⟨true_of listed 2 (by omega) hc, _, rfl, fun e he _ => ha e he⟩
        rw [hr] at hm
        cases hm
    have l3 : listed.getD 3 false = true := by
      cases hc : listed.getD 3 false with
      | true => rfl
      | false =>
        have ha : ∀ e ∈ opsA[3].after, listed.getD e.on false = true := by
          intro e he
          have ho : e.on ∈ opsA[3].after.toList.map (·.on) := List.mem_map.2 ⟨e, Array.mem_toList_iff.2 he, rfl⟩
          have hll : opsA[3].after.toList.map (·.on) = [2] := rfl
          rw [hll] at ho
          generalize e.on = j at ho
          simp at ho
          subst ho; assumption
        have hm : 3 ∈ Region.ready .any opsA listed := mem_ready.2 ⟨true_of listed 3 (by omega) hc, _, rfl, fun e he _ => ha e he⟩
        rw [hr] at hm
        cases hm
    have l4 : listed.getD 4 false = true := by
      cases hc : listed.getD 4 false with
      | true => rfl
      | false =>
        have ha : ∀ e ∈ opsA[4].after, listed.getD e.on false = true := by
          intro e he
          have ho : e.on ∈ opsA[4].after.toList.map (·.on) := List.mem_map.2 ⟨e, Array.mem_toList_iff.2 he, rfl⟩
          have hll : opsA[4].after.toList.map (·.on) = [] := rfl
          rw [hll] at ho
          generalize e.on = j at ho
          cases ho
          skip
        have hm : 4 ∈ Region.ready .any opsA listed := mem_ready.2 ⟨true_of listed 4 (by omega) hc, _, rfl, fun e he _ => ha e he⟩
        rw [hr] at hm
        cases hm
    have l5 : listed.getD 5 false = true := by
      cases hc : listed.getD 5 false with
      | true => rfl
      | false =>
        have ha : ∀ e ∈ opsA[5].after, listed.getD e.on false = true := by
          intro e he
          have ho : e.on ∈ opsA[5].after.toList.map (·.on) := List.mem_map.2 ⟨e, Array.mem_toList_iff.2 he, rfl⟩
          have hll : opsA[5].after.toList.map (·.on) = [4] := rfl
          rw [hll] at ho
          generalize e.on = j at ho
          simp at ho
          subst ho; assumption
        have hm : 5 ∈ Region.ready .any opsA listed := mem_ready.2 ⟨true_of listed 5 (by omega) hc, _, rfl, fun e he _ => ha e he⟩
        rw [hr] at hm
        cases hm
    have l6 : listed.getD 6 false = true := by
      cases hc : listed.getD 6 false with
      | true => rfl
      | false =>
        have ha : ∀ e ∈ opsA[6].after, listed.getD e.on false = true := by
          intro e he
          have ho : e.on ∈ opsA[6].after.toList.map (·.on) := List.mem_map.2 ⟨e, Array.mem_toList_iff.2 he, rfl⟩
          have hll : opsA[6].after.toList.map (·.on) = [] := rfl
          rw [hll] at ho
          generalize e.on = j at ho
          cases ho
          skip
        have hm : 6 ∈ Region.ready .any opsA listed := mem_ready.2 ⟨true_of listed 6 (by omega) hc, _, rfl, fun e he _ => ha e he⟩
        rw [hr] at hm
        cases hm
    have l7 : listed.getD 7 false = true := by
      cases hc : listed.getD 7 false with
      | true => rfl
      | false =>
        have ha : ∀ e ∈ opsA[7].after, listed.getD e.on false = true := by
          intro e he
          have ho : e.on ∈ opsA[7].after.toList.map (·.on) := List.mem_map.2 ⟨e, Array.mem_toList_iff.2 he, rfl⟩
          have hll : opsA[7].after.toList.map (·.on) = [6] := rfl
          rw [hll] at ho
          generalize e.on = j at ho
          simp at ho
          subst ho; assumption
        have hm : 7 ∈ Region.ready .any opsA listed := mem_ready.2 ⟨true_of listed 7 (by omega) hc, _, rfl, fun e he _ => ha e he⟩
        rw [hr] at hm
        cases hm
    have l8 : listed.getD 8 false = true := by
      cases hc : listed.getD 8 false with
      | true => rfl
      | false =>
        have ha : ∀ e ∈ opsA[8].after, listed.getD e.on false = true := by
          intro e he
          have ho : e.on ∈ opsA[8].after.toList.map (·.on) := List.mem_map.2 ⟨e, Array.mem_toList_iff.2 he, rfl⟩
          have hll : opsA[8].after.toList.map (·.on) = [7] := rfl
          rw [hll] at ho
          generalize e.on = j at ho
          simp at ho
          subst ho; assumption
        have hm : 8 ∈ Region.ready .any opsA listed := mem_ready.2 ⟨true_of listed 8 (by omega) hc, _, rfl, fun e he _ => ha e he⟩
        rw [hr] at hm
        cases hm
    have l9 : listed.getD 9 false = true := by
      cases hc : listed.getD 9 false with
      | true => rfl
      | false =>
        have ha : ∀ e ∈ opsA[9].after, listed.getD e.on false = true := by
          intro e he
          have ho : e.on ∈ opsA[9].after.toList.map (·.on) := List.mem_map.2 ⟨e, Array.mem_toList_iff.2 he, rfl⟩
          have hll : opsA[9].after.toList.map (·.on) = [8] := rfl
          rw [hll] at ho
          generalize e.on = j at ho
          simp at ho
          subst ho; assumption
        have hm : 9 ∈ Region.ready .any opsA listed := mem_ready.2 ⟨true_of listed 9 (by omega) hc, _, rfl, fun e he _ => ha e he⟩
        rw [hr] at hm
        cases hm
    have l10 : listed.getD 10 false = true := by
      cases hc : listed.getD 10 false with
      | true => rfl
      | false =>
        have ha : ∀ e ∈ opsA[10].after, listed.getD e.on false = true := by
          intro e he
          have ho : e.on ∈ opsA[10].after.toList.map (·.on) := List.mem_map.2 ⟨e, Array.mem_toList_iff.2 he, rfl⟩
          have hll : opsA[10].after.toList.map (·.on) = [] := rfl
          rw [hll] at ho
          generalize e.on = j at ho
          cases ho
          skip
        have hm : 10 ∈ Region.ready .any opsA listed := mem_ready.2 ⟨true_of listed 10 (by omega) hc, _, rfl, fun e he _ => ha e he⟩
        rw [hr] at hm
        cases hm
    have l11 : listed.getD 11 false = true := by
      cases hc : listed.getD 11 false with
      | true => rfl
      | false =>
        have ha : ∀ e ∈ opsA[11].after, listed.getD e.on false = true := by
          intro e he
          have ho : e.on ∈ opsA[11].after.toList.map (·.on) := List.mem_map.2 ⟨e, Array.mem_toList_iff.2 he, rfl⟩
          have hll : opsA[11].after.toList.map (·.on) = [10] := rfl
          rw [hll] at ho
          generalize e.on = j at ho
          simp at ho
          subst ho; assumption
        have hm : 11 ∈ Region.ready .any opsA listed := mem_ready.2 ⟨true_of listed 11 (by omega) hc, _, rfl, fun e he _ => ha e he⟩
        rw [hr] at hm
        cases hm
    have l12 : listed.getD 12 false = true := by
      cases hc : listed.getD 12 false with
      | true => rfl
      | false =>
        have ha : ∀ e ∈ opsA[12].after, listed.getD e.on false = true := by
          intro e he
          have ho : e.on ∈ opsA[12].after.toList.map (·.on) := List.mem_map.2 ⟨e, Array.mem_toList_iff.2 he, rfl⟩
          have hll : opsA[12].after.toList.map (·.on) = [9, 11] := rfl
          rw [hll] at ho
          generalize e.on = j at ho
          simp at ho
          rcases ho with rfl | rfl <;> assumption
        have hm : 12 ∈ Region.ready .any opsA listed := mem_ready.2 ⟨true_of listed 12 (by omega) hc, _, rfl, fun e he _ => ha e he⟩
        rw [hr] at hm
        cases hm
    have l13 : listed.getD 13 false = true := by
      cases hc : listed.getD 13 false with
      | true => rfl
      | false =>
        have ha : ∀ e ∈ opsA[13].after, listed.getD e.on false = true := by
          intro e he
          have ho : e.on ∈ opsA[13].after.toList.map (·.on) := List.mem_map.2 ⟨e, Array.mem_toList_iff.2 he, rfl⟩
          have hll : opsA[13].after.toList.map (·.on) = [12] := rfl
          rw [hll] at ho
          generalize e.on = j at ho
          simp at ho
          subst ho; assumption
        have hm : 13 ∈ Region.ready .any opsA listed := mem_ready.2 ⟨true_of listed 13 (by omega) hc, _, rfl, fun e he _ => ha e he⟩
        rw [hr] at hm
        cases hm
    have l14 : listed.getD 14 false = true := by
      cases hc : listed.getD 14 false with
      | true => rfl
      | false =>
        have ha : ∀ e ∈ opsA[14].after, listed.getD e.on false = true := by
          intro e he
          have ho : e.on ∈ opsA[14].after.toList.map (·.on) := List.mem_map.2 ⟨e, Array.mem_toList_iff.2 he, rfl⟩
          have hll : opsA[14].after.toList.map (·.on) = [] := rfl
          rw [hll] at ho
          generalize e.on = j at ho
          cases ho
          skip
        have hm : 14 ∈ Region.ready .any opsA listed := mem_ready.2 ⟨true_of listed 14 (by omega) hc, _, rfl, fun e he _ => ha e he⟩
        rw [hr] at hm
        cases hm
    have l15 : listed.getD 15 false = true := by
      cases hc : listed.getD 15 false with
      | true => rfl
      | false =>
        have ha : ∀ e ∈ opsA[15].after, listed.getD e.on false = true := by
          intro e he
          have ho : e.on ∈ opsA[15].after.toList.map (·.on) := List.mem_map.2 ⟨e, Array.mem_toList_iff.2 he, rfl⟩
          have hll : opsA[15].after.toList.map (·.on) = [14] := rfl
          rw [hll] at ho
          generalize e.on = j at ho
          simp at ho
          subst ho; assumption
        have hm : 15 ∈ Region.ready .any opsA listed := mem_ready.2 ⟨true_of listed 15 (by omega) hc, _, rfl, fun e he _ => ha e he⟩
        rw [hr] at hm
        cases hm
    have l16 : listed.getD 16 false = true := by
      cases hc : listed.getD 16 false with
      | true => rfl
      | false =>
        have ha : ∀ e ∈ opsA[16].after, listed.getD e.on false = true := by
          intro e he
          have ho : e.on ∈ opsA[16].after.toList.map (·.on) := List.mem_map.2 ⟨e, Array.mem_toList_iff.2 he, rfl⟩
          have hll : opsA[16].after.toList.map (·.on) = [13, 15] := rfl
          rw [hll] at ho
          generalize e.on = j at ho
          simp at ho
          rcases ho with rfl | rfl <;> assumption
        have hm : 16 ∈ Region.ready .any opsA listed := mem_ready.2 ⟨true_of listed 16 (by omega) hc, _, rfl, fun e he _ => ha e he⟩
        rw [hr] at hm
        cases hm
    have l17 : listed.getD 17 false = true := by
      cases hc : listed.getD 17 false with
      | true => rfl
      | false =>
        have ha : ∀ e ∈ opsA[17].after, listed.getD e.on false = true := by
          intro e he
          have ho : e.on ∈ opsA[17].after.toList.map (·.on) := List.mem_map.2 ⟨e, Array.mem_toList_iff.2 he, rfl⟩
          have hll : opsA[17].after.toList.map (·.on) = [3, 5, 0, 1, 2, 3, 4, 5, 6, 7, 8, 9, 10, 11, 12, 13, 14, 15, 16] := rfl
          rw [hll] at ho
          generalize e.on = j at ho
          simp at ho
          rcases ho with rfl | rfl | rfl | rfl | rfl | rfl | rfl | rfl | rfl | rfl | rfl | rfl | rfl | rfl | rfl | rfl | rfl | rfl | rfl <;> assumption
        have hm : 17 ∈ Region.ready .any opsA listed := mem_ready.2 ⟨true_of listed 17 (by omega) hc, _, rfl, fun e he _ => ha e he⟩
        rw [hr] at hm
        cases hm
    have l18 : listed.getD 18 false = true := by
      cases hc : listed.getD 18 false with
      | true => rfl
      | false =>
        have ha : ∀ e ∈ opsA[18].after, listed.getD e.on false = true := by
          intro e he
          have ho : e.on ∈ opsA[18].after.toList.map (·.on) := List.mem_map.2 ⟨e, Array.mem_toList_iff.2 he, rfl⟩
          have hll : opsA[18].after.toList.map (·.on) = [17, 16, 16, 0, 1, 2, 3, 4, 5, 6, 7, 8, 9, 10, 11, 12, 13, 14, 15, 16] := rfl
          rw [hll] at ho
          generalize e.on = j at ho
          simp at ho
          rcases ho with rfl | rfl | rfl | rfl | rfl | rfl | rfl | rfl | rfl | rfl | rfl | rfl | rfl | rfl | rfl | rfl | rfl | rfl | rfl | rfl <;> assumption
        have hm : 18 ∈ Region.ready .any opsA listed := mem_ready.2 ⟨true_of listed 18 (by omega) hc, _, rfl, fun e he _ => ha e he⟩
        rw [hr] at hm
        cases hm
    obtain ⟨s, hs, hfd, he, hM⟩ := h
    obtain ⟨g, cap, w3, b1, b2, b3, b4, b5, b6, -, b8⟩ := hM.e2 l16
    have hq := hQ g cap w3 s b1 ((Below.refl B w1).drew.trans b2) b3 b4 b5
    have hb : a = (((((((((((((((((a0.put (some 51) (s 51)).put (some 52) (s 52)).put (some 53) (s 53)).put (some 54) (s 54)).put (some 55) (s 55)).put (some 56) (s 56)).put (some 57) (s 57)).put (some 58) (s 58)).put (some 59) (s 59)).put (some 60) (s 60)).put (some 61) (s 61)).put (some 62) (s 62)).put (some 63) (s 63)).put (some 64) (s 64)).put (some 65) (s 65)).put (some 66) (s 66)).put (some 67) (s 67)).put (some 68) (s 68) := by
      refine act_ext _ _ (by simp only [TMake.size_put]; exact hs) (by simp only [TMake.defers_put]; exact hfd) fun k => ?_
      rw [he]
      simp only [getD_putA, TMake.size_put, hsz, Nat.reduceLT]
      by_cases hk2 : 51 ≤ k ∧ k ≤ 68
      · have hc : k = 51 ∨ k = 52 ∨ k = 53 ∨ k = 54 ∨ k = 55 ∨ k = 56 ∨ k = 57 ∨ k = 58 ∨ k = 59 ∨ k = 60 ∨ k = 61 ∨ k = 62 ∨ k = 63 ∨ k = 64 ∨ k = 65 ∨ k = 66 ∨ k = 67 ∨ k = 68 := by omega
        rcases hc with rfl | rfl | rfl | rfl | rfl | rfl | rfl | rfl | rfl | rfl | rfl | rfl | rfl | rfl | rfl | rfl | rfl | rfl <;> simp
      · rw [hM.rest k hk2]
        iterate 18 rw [if_neg (by omega)]
    rw [hb, b8 l18]
    exact hq
  · refine ⟨fun k => a0.tmps.getD k undef, rfl, rfl, fun _ => rfl, ?_⟩
    have hno : ∀ j, (Array.replicate opsA.size false).getD j false = false := fun j => by
      simp only [Array.getD_eq_getD_getElem?, Array.getElem?_replicate]
      split <;> rfl
    have hn : ∀ {p : Prop} (j : Nat), (Array.replicate opsA.size false).getD j false = true → p := fun j h => by rw [hno j] at h; cases h
    exact ⟨fun _ _ => rfl, fun h => hn _ h, fun h => hn _ h, fun h => hn _ h, fun h => hn _ h, fun h => hn _ h, fun h => hn _ h, fun h => hn _ h, fun h => hn _ h, fun h => hn _ h, fun h => hn _ h, fun h => hn _ h, fun h => hn _ h, fun h => hn _ h, fun h => hn _ h, fun h => hn _ h, fun h => hn _ h, fun h => hn _ h, fun _ _ => rfl, fun _ h => hn _ h, fun h => hn _ h, fun h => hn _ h, fun h => hn _ h, fun h => hn _ h, fun _ => ⟨cS, cP, cI, fI⟩⟩
theorem getD_putB (a : Act) (d : Nat) (v : Value) (h : 87 ≤ a.tmps.size) (hd : d < 87) (k : Nat) : (a.put (some d) v).tmps.getD k undef = if k = d then v else a.tmps.getD k undef := getD_put a d v (by omega) k
def opsB : Array Oper := #[
  { dst := some 69, op := Op.move (Operand.tmp 7), type := 49, pos := "tsort.go:114", after := #[], guard := none },
  { dst := some 70, op := Op.nilCheck (Operand.tmp 69), type := 0, pos := "tsort.go:114", after := #[{ on := 0, ground := Ground.data }], guard := none },
  { dst := some 71, op := Op.fieldAddr 55 (Operand.tmp 70) 3, type := 0, pos := "tsort.go:114", after := #[{ on := 1, ground := Ground.data }], guard := none },
  { dst := some 72, op := Op.load 50 (Operand.tmp 71), type := 50, pos := "tsort.go:114", after := #[{ on := 2, ground := Ground.data }], guard := none },
  { dst := some 73, op := Op.fieldAddr 57 (Operand.tmp 9) 0, type := 0, pos := "tsort.go:114", after := #[], guard := none },
  { dst := some 74, op := Op.load 3 (Operand.tmp 73), type := 3, pos := "tsort.go:114", after := #[{ on := 4, ground := Ground.data }], guard := none },
  { dst := some 75, op := Op.move (Operand.tmp 7), type := 49, pos := "tsort.go:114", after := #[], guard := none },
  { dst := some 76, op := Op.nilCheck (Operand.tmp 75), type := 0, pos := "tsort.go:114", after := #[{ on := 6, ground := Ground.data }], guard := none },
  { dst := some 77, op := Op.fieldAddr 55 (Operand.tmp 76) 3, type := 0, pos := "tsort.go:114", after := #[{ on := 7, ground := Ground.data }], guard := none },
  { dst := some 78, op := Op.load 50 (Operand.tmp 77), type := 50, pos := "tsort.go:114", after := #[{ on := 8, ground := Ground.data }], guard := none },
  { dst := some 79, op := Op.fieldAddr 57 (Operand.tmp 9) 0, type := 0, pos := "tsort.go:114", after := #[], guard := none },
  { dst := some 80, op := Op.load 3 (Operand.tmp 79), type := 3, pos := "tsort.go:114", after := #[{ on := 10, ground := Ground.data }], guard := none },
  { dst := some 81, op := Op.indexAddr 50 (Operand.tmp 78) (Operand.tmp 80), type := 0, pos := "tsort.go:114", after := #[{ on := 9, ground := Ground.data }, { on := 11, ground := Ground.data }], guard := none },
  { dst := some 82, op := Op.load 51 (Operand.tmp 81), type := 51, pos := "tsort.go:114", after := #[{ on := 12, ground := Ground.data }], guard := none },
  { dst := some 83, op := Op.move (Operand.tmp 8), type := 3, pos := "tsort.go:114", after := #[], guard := none },
  { dst := some 84, op := Op.buildSlice 51 1 #[(0, (Operand.tmp 83))], type := 51, pos := "tsort.go:114", after := #[{ on := 14, ground := Ground.data }], guard := none },
  { dst := some 85, op := Op.call { callee := Callee.builtin Builtin.append, args := #[(Operand.tmp 82), (Operand.tmp 84)], argTypes := #[51, 51] }, type := 51, pos := "tsort.go:114", after := #[{ on := 13, ground := Ground.data }, { on := 15, ground := Ground.data }], guard := none },
  { dst := some 86, op := Op.indexAddr 50 (Operand.tmp 72) (Operand.tmp 74), type := 0, pos := "tsort.go:114", after := #[{ on := 3, ground := Ground.data }, { on := 5, ground := Ground.data }, { on := 0, ground := Ground.phase }, { on := 1, ground := Ground.phase }, { on := 2, ground := Ground.phase }, { on := 3, ground := Ground.phase }, { on := 4, ground := Ground.phase }, { on := 5, ground := Ground.phase }, { on := 6, ground := Ground.phase }, { on := 7, ground := Ground.phase }, { on := 8, ground := Ground.phase }, { on := 9, ground := Ground.phase }, { on := 10, ground := Ground.phase }, { on := 11, ground := Ground.phase }, { on := 12, ground := Ground.phase }, { on := 13, ground := Ground.phase }, { on := 14, ground := Ground.phase }, { on := 15, ground := Ground.phase }, { on := 16, ground := Ground.phase }], guard := none },
  { dst := none, op := Op.store 51 (Operand.tmp 86) (Operand.tmp 85), type := 0, pos := "tsort.go:114", after := #[{ on := 17, ground := Ground.data }, { on := 16, ground := Ground.data }, { on := 16, ground := Ground.chain }, { on := 0, ground := Ground.phase }, { on := 1, ground := Ground.phase }, { on := 2, ground := Ground.phase }, { on := 3, ground := Ground.phase }, { on := 4, ground := Ground.phase }, { on := 5, ground := Ground.phase }, { on := 6, ground := Ground.phase }, { on := 7, ground := Ground.phase }, { on := 8, ground := Ground.phase }, { on := 9, ground := Ground.phase }, { on := 10, ground := Ground.phase }, { on := 11, ground := Ground.phase }, { on := 12, ground := Ground.phase }, { on := 13, ground := Ground.phase }, { on := 14, ground := Ground.phase }, { on := 15, ground := Ground.phase }, { on := 16, ground := Ground.phase }], guard := none }]
/-- what holds while some of the operations have come up -/
structure ApB (n sb P ib B j k : Nat) (val : Value) (xs : List Nat) (w0 : World) (s0 : Nat → Value) (L : Nat → Bool) (s : Nat → Value) (w : World) : Prop where
  rest : ∀ i, ¬ (69 ≤ i ∧ i ≤ 86) → s i = s0 i
  q0 : L 0 = true → s 69 = (.pointer (some ⟨sb, 0, none⟩))
  q1 : L 1 = true → s 70 = (.pointer (some ⟨sb, 0, none⟩))
  q2 : L 2 = true → s 71 = (.pointer (some ⟨sb, 3, none⟩))
  q3 : L 3 = true → s 72 = (.slice (some ⟨ib, 0, none⟩) n n)
  q4 : L 4 = true → s 73 = (.pointer (some ⟨P, 0, none⟩))
  q5 : L 5 = true → s 74 = (.int .i64 (j : Nat))
  q6 : L 6 = true → s 75 = (.pointer (some ⟨sb, 0, none⟩))
  q7 : L 7 = true → s 76 = (.pointer (some ⟨sb, 0, none⟩))
  q8 : L 8 = true → s 77 = (.pointer (some ⟨sb, 3, none⟩))
  q9 : L 9 = true → s 78 = (.slice (some ⟨ib, 0, none⟩) n n)
  q10 : L 10 = true → s 79 = (.pointer (some ⟨P, 0, none⟩))
  q11 : L 11 = true → s 80 = (.int .i64 (j : Nat))
  q12 : L 12 = true → s 81 = (.pointer (some ⟨ib, j, none⟩))
  q13 : L 13 = true → s 82 = val
  q14 : L 14 = true → s 83 = (.int .i64 (k : Nat))
  q17 : L 17 = true → s 86 = (.pointer (some ⟨ib, j, none⟩))
  q15 : L 15 = true → s 84 = .slice (some ⟨w0.heap.size, 0, none⟩) 1 1
  e0 : L 16 = false → L 15 = false → w = w0
  e1 : L 16 = false → L 15 = true → w = w0.alloc (.cells #[.int .i64 (k : Nat)] 3)
  e2 : L 16 = true → ∃ g cap w3, w3.ownsRow B 3 1 (.slice (some ⟨g, 0, none⟩) (xs.length + 1) cap) (xs.length + 1) (icells xs ++ [.int .i64 (k : Nat)]) ∧ Below B w0 w3 ∧ (∀ q, q < w0.heap.size → val.ownBlock ≠ some q → w3.heap[q]? = w0.heap[q]?) ∧ (val.ownBlock = some g ∨ g = w0.heap.size + 1) ∧ g < w3.heap.size ∧ s 85 = .slice (some ⟨g, 0, none⟩) (xs.length + 1) cap ∧ (L 18 = false → w = w3) ∧ (L 18 = true → w = w3.setCell ⟨ib, j, none⟩ (.slice (some ⟨g, 0, none⟩) (xs.length + 1) cap))
  p16 : L 16 = true → L 15 = true
  p17 : L 17 = true → ∀ i, i < 17 → L i = true
  p18 : L 18 = true → L 17 = true
  mem : L 18 = false → w.cell? ⟨sb, 3, none⟩ = some (.slice (some ⟨ib, 0, none⟩) n n) ∧ w.cell? ⟨P, 0, none⟩ = some (.int .i64 (j : Nat)) ∧ w.cell? ⟨ib, j, none⟩ = some val ∧ w.frozen? ⟨ib, j, none⟩ = false
theorem ApB.step0 {n sb P ib B j k : Nat} {val : Value} {xs : List Nat} {w0 : World} {s0 : Nat → Value} {L : Nat → Bool} {s : Nat → Value} {w : World} (h : ApB n sb P ib B j k val xs w0 s0 L s w) : ApB n sb P ib B j k val xs w0 s0 (fun i => L i || i == 0) (fun i => if i = 69 then (.pointer (some ⟨sb, 0, none⟩)) else s i) w := by
  have hr : ∀ i, ¬ (69 ≤ i ∧ i ≤ 86) → (if i = 69 then (.pointer (some ⟨sb, 0, none⟩)) else s i) = s0 i := fun i h1 => by rw [if_neg (by omega)]; exact h.rest i h1
  refine ⟨hr, (fun _ => by simp), (by simpa using h.q1), (by simpa using h.q2), (by simpa using h.q3), (by simpa using h.q4), (by simpa using h.q5), (by simpa using h.q6), (by simpa using h.q7), (by simpa using h.q8), (by simpa using h.q9), (by simpa using h.q10), (by simpa using h.q11), (by simpa using h.q12), (by simpa using h.q13), (by simpa using h.q14), (by simpa using h.q17), (by simpa using h.q15), (by simpa using h.e0), (by simpa using h.e1), (by simpa using h.e2), (by simpa using h.p16), (fun h17 i hi2 => by simp [h.p17 (by simpa using h17) i hi2]), (by simpa using h.p18), (by simpa using h.mem)⟩
theorem ApB.step1 {n sb P ib B j k : Nat} {val : Value} {xs : List Nat} {w0 : World} {s0 : Nat → Value} {L : Nat → Bool} {s : Nat → Value} {w : World} (h : ApB n sb P ib B j k val xs w0 s0 L s w) : ApB n sb P ib B j k val xs w0 s0 (fun i => L i || i == 1) (fun i => if i = 70 then (.pointer (some ⟨sb, 0, none⟩)) else s i) w := by
  have hr : ∀ i, ¬ (69 ≤ i ∧ i ≤ 86) → (if i = 70 then (.pointer (some ⟨sb, 0, none⟩)) else s i) = s0 i := fun i h1 => by rw [if_neg (by omega)]; exact h.rest i h1
  refine ⟨hr, (by simpa using h.q0), (fun _ => by simp), (by simpa using h.q2), (by simpa using h.q3), (by simpa using h.q4), (by simpa using h.q5), (by simpa using h.q6), (by simpa using h.q7), (by simpa using h.q8), (by simpa using h.q9), (by simpa using h.q10), (by simpa using h.q11), (by simpa using h.q12), (by simpa using h.q13), (by simpa using h.q14), (by simpa using h.q17), (by simpa using h.q15), (by simpa using h.e0), (by simpa using h.e1), (by simpa using h.e2), (by simpa using h.p16), (fun h17 i hi2 => by simp [h.p17 (by simpa using h17) i hi2]), (by simpa using h.p18), (by simpa using h.mem)⟩
theorem ApB.step2 {n sb P ib B j k : Nat} {val : Value} {xs : List Nat} {w0 : World} {s0 : Nat → Value} {L : Nat → Bool} {s : Nat → Value} {w : World} (h : ApB n sb P ib B j k val xs w0 s0 L s w) : ApB n sb P ib B j k val xs w0 s0 (fun i => L i || i == 2) (fun i => if i = 71 then (.pointer (some ⟨sb, 3, none⟩)) else s i) w := by
  have hr : ∀ i, ¬ (69 ≤ i ∧ i ≤ 86) → (if i = 71 then (.pointer (some ⟨sb, 3, none⟩)) else s i) = s0 i := fun i h1 => by rw [if_neg (by omega)]; exact h.rest i h1
  refine ⟨hr, (by simpa using h.q0), (by simpa using h.q1), (fun _ => by simp), (by simpa using h.q3), (by simpa using h.q4), (by simpa using h.q5), (by simpa using h.q6), (by simpa using h.q7), (by simpa using h.q8), (by simpa using h.q9), (by simpa using h.q10), (by simpa using h.q11), (by simpa using h.q12), (by simpa using h.q13), (by simpa using h.q14), (by simpa using h.q17), (by simpa using h.q15), (by simpa using h.e0), (by simpa using h.e1), (by simpa using h.e2), (by simpa using h.p16), (fun h17 i hi2 => by simp [h.p17 (by simpa using h17) i hi2]), (by simpa using h.p18), (by simpa using h.mem)⟩
theorem ApB.step3 {n sb P ib B j k : Nat} {val : Value} {xs : List Nat} {w0 : World} {s0 : Nat → Value} {L : Nat → Bool} {s : Nat → Value} {w : World} (h : ApB n sb P ib B j k val xs w0 s0 L s w) : ApB n sb P ib B j k val xs w0 s0 (fun i => L i || i == 3) (fun i => if i = 72 then (.slice (some ⟨ib, 0, none⟩) n n) else s i) w := by
  have hr : ∀ i, ¬ (69 ≤ i ∧ i ≤ 86) → (if i = 72 then (.slice (some ⟨ib, 0, none⟩) n n) else s i) = s0 i := fun i h1 => by rw [if_neg (by omega)]; exact h.rest i h1
  refine ⟨hr, (by simpa using h.q0), (by simpa using h.q1), (by simpa using h.q2), (fun _ => by simp), (by simpa using h.q4), (by simpa using h.q5), (by simpa using h.q6), (by simpa using h.q7), (by simpa using h.q8), (by simpa using h.q9), (by simpa using h.q10), (by simpa using h.q11), (by simpa using h.q12), (by simpa using h.q13), (by simpa using h.q14), (by simpa using h.q17), (by simpa using h.q15), (by simpa using h.e0), (by simpa using h.e1), (by simpa using h.e2), (by simpa using h.p16), (fun h17 i hi2 => by simp [h.p17 (by simpa using h17) i hi2]), (by simpa using h.p18), (by simpa using h.mem)⟩
theorem ApB.step4 {n sb P ib B j k : Nat} {val : Value} {xs : List Nat} {w0 : World} {s0 : Nat → Value} {L : Nat → Bool} {s : Nat → Value} {w : World} (h : ApB n sb P ib B j k val xs w0 s0 L s w) : ApB n sb P ib B j k val xs w0 s0 (fun i => L i || i == 4) (fun i => if i = 73 then (.pointer (some ⟨P, 0, none⟩)) else s i) w := by
  have hr : ∀ i, ¬ (69 ≤ i ∧ i ≤ 86) → (if i = 73 then (.pointer (some ⟨P, 0, none⟩)) else s i) = s0 i := fun i h1 => by rw [if_neg (by omega)]; exact h.rest i h1
  refine ⟨hr, (by simpa using h.q0), (by simpa using h.q1), (by simpa using h.q2), (by simpa using h.q3), (fun _ => by simp), (by simpa using h.q5), (by simpa using h.q6), (by simpa using h.q7), (by simpa using h.q8), (by simpa using h.q9), (by simpa using h.q10), (by simpa using h.q11), (by simpa using h.q12), (by simpa using h.q13), (by simpa using h.q14), (by simpa using h.q17), (by simpa using h.q15), (by simpa using h.e0), (by simpa using h.e1), (by simpa using h.e2), (by simpa using h.p16), (fun h17 i hi2 => by simp [h.p17 (by simpa using h17) i hi2]), (by simpa using h.p18), (by simpa using h.mem)⟩
theorem ApB.step5 {n sb P ib B j k : Nat} {val : Value} {xs : List Nat} {w0 : World} {s0 : Nat → Value} {L : Nat → Bool} {s : Nat → Value} {w : World} (h : ApB n sb P ib B j k val xs w0 s0 L s w) : ApB n sb P ib B j k val xs w0 s0 (fun i => L i || i == 5) (fun i => if i = 74 then (.int .i64 (j : Nat)) else s i) w := by
  have hr : ∀ i, ¬ (69 ≤ i ∧ i ≤ 86) → (if i = 74 then (.int .i64 (j : Nat)) else s i) = s0 i := fun i h1 => by rw [if_neg (by omega)]; exact h.rest i h1
  refine ⟨hr, (by simpa using h.q0), (by simpa using h.q1), (by simpa using h.q2), (by simpa using h.q3), (by simpa using h.q4), (fun _ => by simp), (by simpa using h.q6), (by simpa using h.q7), (by simpa using h.q8), (by simpa using h.q9), (by simpa using h.q10), (by simpa using h.q11), (by simpa using h.q12), (by simpa using h.q13), (by simpa using h.q14), (by simpa using h.q17), (by simpa using h.q15), (by simpa using h.e0), (by simpa using h.e1), (by simpa using h.e2), (by simpa using h.p16), (fun h17 i hi2 => by simp [h.p17 (by simpa using h17) i hi2]), (by simpa using h.p18), (by simpa using h.mem)⟩
theorem ApB.step6 {n sb P ib B j k : Nat} {val : Value} {xs : List Nat} {w0 : World} {s0 : Nat → Value} {L : Nat → Bool} {s : Nat → Value} {w : World} (h : ApB n sb P ib B j k val xs w0 s0 L s w) : ApB n sb P ib B j k val xs w0 s0 (fun i => L i || i == 6) (fun i => if i = 75 then (.pointer (some ⟨sb, 0, none⟩)) else s i) w := by
  have hr : ∀ i, ¬ (69 ≤ i ∧ i ≤ 86) → (if i = 75 then (.pointer (some ⟨sb, 0, none⟩)) else s i) = s0 i := fun i h1 => by rw [if_neg (by omega)]; exact h.rest i h1
  refine ⟨hr, (by simpa using h.q0), (by simpa using h.q1), (by simpa using h.q2), (by simpa using h.q3), (by simpa using h.q4), (by simpa using h.q5), (fun _ => by simp), (by simpa using h.q7), (by simpa using h.q8), (by simpa using h.q9), (by simpa using h.q10), (by simpa using h.q11), (by simpa using h.q12), (by simpa using h.q13), (by simpa using h.q14), (by simpa using h.q17), (by simpa using h.q15), (by simpa using h.e0), (by simpa using h.e1), (by simpa using h.e2), (by simpa using h.p16), (fun h17 i hi2 => by simp [h.p17 (by simpa using h17) i hi2]), (by simpa using h.p18), (by simpa using h.mem)⟩
theorem ApB.step7 {n sb P ib B j k : Nat} {val : Value} {xs : List Nat} {w0 : World} {s0 : Nat → Value} {L : Nat → Bool} {s : Nat → Value} {w : World} (h : ApB n sb P ib B j k val xs w0 s0 L s w) : ApB n sb P ib B j k val xs w0 s0 (fun i => L i || i == 7) (fun i => if i = 76 then (.pointer (some ⟨sb, 0, none⟩)) else s i) w := by
  have hr : ∀ i, ¬ (69 ≤ i ∧ i ≤ 86) → (if i = 76 then (.pointer (some ⟨sb, 0, none⟩)) else s i) = s0 i := fun i h1 => by rw [if_neg (by omega)]; exact h.rest i h1
  refine ⟨hr, (by simpa using h.q0), (by simpa using h.q1), (by simpa using h.q2), (by simpa using h.q3), (by simpa using h.q4), (by simpa using h.q5), (by simpa using h.q6), (fun _ => by simp), (by simpa using h.q8), (by simpa using h.q9), (by simpa using h.q10), (by simpa using h.q11), (by simpa using h.q12), (by simpa using h.q13), (by simpa using h.q14), (by simpa using h.q17), (by simpa using h.q15), (by simpa using h.e0), (by simpa using h.e1), (by simpa using h.e2), (by simpa using h.p16), (fun h17 i hi2 => by simp [h.p17 (by simpa using h17) i hi2]), (by simpa using h.p18), (by simpa using h.mem)⟩
theorem ApB.step8 {n sb P ib B j k : Nat} {val : Value} {xs : List Nat} {w0 : World} {s0 : Nat → Value} {L : Nat → Bool} {s : Nat → Value} {w : World} (h : ApB n sb P ib B j k val xs w0 s0 L s w) : ApB n sb P ib B j k val xs w0 s0 (fun i => L i || i == 8) (fun i => if i = 77 then (.pointer (some ⟨sb, 3, none⟩)) else s i) w := by
  have hr : ∀ i, ¬ (69 ≤ i ∧ i ≤ 86) → (if i = 77 then (.pointer (some ⟨sb, 3, none⟩)) else s i) = s0 i := fun i h1 => by rw [if_neg (by omega)]; exact h.rest i h1
  refine ⟨hr, (by simpa using h.q0), (by simpa using h.q1), (by simpa using h.q2), (by simpa using h.q3), (by simpa using h.q4), (by simpa using h.q5), (by simpa using h.q6), (by simpa using h.q7), (fun _ => by simp), (by simpa using h.q9), (by simpa using h.q10), (by simpa using h.q11), (by simpa using h.q12), (by simpa using h.q13), (by simpa using h.q14), (by simpa using h.q17), (by simpa using h.q15), (by simpa using h.e0), (by simpa using h.e1), (by simpa using h.e2), (by simpa using h.p16), (fun h17 i hi2 => by simp [h.p17 (by simpa using h17) i hi2]), (by simpa using h.p18), (by simpa using h.mem)⟩
theorem ApB.step9 {n sb P ib B j k : Nat} {val : Value} {xs : List Nat} {w0 : World} {s0 : Nat → Value} {L : Nat → Bool} {s : Nat → Value} {w : World} (h : ApB n sb P ib B j k val xs w0 s0 L s w) : ApB n sb P ib B j k val xs w0 s0 (fun i => L i || i == 9) (fun i => if i = 78 then (.slice (some ⟨ib, 0, none⟩) n n) else s i) w := by
  have hr : ∀ i, ¬ (69 ≤ i ∧ i ≤ 86) → (if i = 78 then (.slice (some ⟨ib, 0, none⟩) n n) else s i) = s0 i := fun i h1 => by rw [if_neg (by omega)]; exact h.rest i h1
  refine ⟨hr, (by simpa using h.q0), (by simpa using h.q1), (by simpa using h.q2), (by simpa using h.q3), (by simpa using h.q4), (by simpa using h.q5), (by simpa using h.q6), (by simpa using h.q7), (by simpa using h.q8), (fun _ => by simp), (by simpa using h.q10), (by simpa using h.q11), (by simpa using h.q12), (by simpa using h.q13), (by simpa using h.q14), (by simpa using h.q17), (by simpa using h.q15), (by simpa using h.e0), (by simpa using h.e1), (by simpa using h.e2), (by simpa using h.p16), (fun h17 i hi2 => by simp [h.p17 (by simpa using h17) i hi2]), (by simpa using h.p18), (by simpa using h.mem)⟩
theorem ApB.step10 {n sb P ib B j k : Nat} {val : Value} {xs : List Nat} {w0 : World} {s0 : Nat → Value} {L : Nat → Bool} {s : Nat → Value} {w : World} (h : ApB n sb P ib B j k val xs w0 s0 L s w) : ApB n sb P ib B j k val xs w0 s0 (fun i => L i || i == 10) (fun i => if i = 79 then (.pointer (some ⟨P, 0, none⟩)) else s i) w := by
  have hr : ∀ i, ¬ (69 ≤ i ∧ i ≤ 86) → (if i = 79 then (.pointer (some ⟨P, 0, none⟩)) else s i) = s0 i := fun i h1 => by rw [if_neg (by omega)]; exact h.rest i h1
  refine ⟨hr, (by simpa using h.q0), (by simpa using h.q1), (by simpa using h.q2), (by simpa using h.q3), (by simpa using h.q4), (by simpa using h.q5), (by simpa using h.q6), (by simpa using h.q7), (by simpa using h.q8), (by simpa using h.q9), (fun _ => by simp), (by simpa using h.q11), (by simpa using h.q12), (by simpa using h.q13), (by simpa using h.q14), (by simpa using h.q17), (by simpa using h.q15), (by simpa using h.e0), (by simpa using h.e1), (by simpa using h.e2), (by simpa using h.p16), (fun h17 i hi2 => by simp [h.p17 (by simpa using h17) i hi2]), (by simpa using h.p18), (by simpa using h.mem)⟩
theorem ApB.step11 {n sb P ib B j k : Nat} {val : Value} {xs : List Nat} {w0 : World} {s0 : Nat → Value} {L : Nat → Bool} {s : Nat → Value} {w : World} (h : ApB n sb P ib B j k val xs w0 s0 L s w) : ApB n sb P ib B j k val xs w0 s0 (fun i => L i || i == 11) (fun i => if i = 80 then (.int .i64 (j : Nat)) else s i) w := by
  have hr : ∀ i, ¬ (69 ≤ i ∧ i ≤ 86) → (if i = 80 then (.int .i64 (j : Nat)) else s i) = s0 i := fun i h1 => by rw [if_neg (by omega)]; exact h.rest i h1
  refine ⟨hr, (by simpa using h.q0), (by simpa using h.q1), (by simpa using h.q2), (by simpa using h.q3), (by simpa using h.q4), (by simpa using h.q5), (by simpa using h.q6), (by simpa using h.q7), (by simpa using h.q8), (by simpa using h.q9), (by simpa using h.q10), (fun _ => by simp), (by simpa using h.q12), (by simpa using h.q13), (by simpa using h.q14), (by simpa using h.q17), (by simpa using h.q15), (by simpa using h.e0), (by simpa using h.e1), (by simpa using h.e2), (by simpa using h.p16), (fun h17 i hi2 => by simp [h.p17 (by simpa using h17) i hi2]), (by simpa using h.p18), (by simpa using h.mem)⟩
theorem ApB.step12 {n sb P ib B j k : Nat} {val : Value} {xs : List Nat} {w0 : World} {s0 : Nat → Value} {L : Nat → Bool} {s : Nat → Value} {w : World} (h : ApB n sb P ib B j k val xs w0 s0 L s w) : ApB n sb P ib B j k val xs w0 s0 (fun i => L i || i == 12) (fun i => if i = 81 then (.pointer (some ⟨ib, j, none⟩)) else s i) w := by
  have hr : ∀ i, ¬ (69 ≤ i ∧ i ≤ 86) → (if i = 81 then (.pointer (some ⟨ib, j, none⟩)) else s i) = s0 i := fun i h1 => by rw [if_neg (by omega)]; exact h.rest i h1
  refine ⟨hr, (by simpa using h.q0), (by simpa using h.q1), (by simpa using h.q2), (by simpa using h.q3), (by simpa using h.q4), (by simpa using h.q5), (by simpa using h.q6), (by simpa using h.q7), (by simpa using h.q8), (by simpa using h.q9), (by simpa using h.q10), (by simpa using h.q11), (fun _ => by simp), (by simpa using h.q13), (by simpa using h.q14), (by simpa using h.q17), (by simpa using h.q15), (by simpa using h.e0), (by simpa using h.e1), (by simpa using h.e2), (by simpa using h.p16), (fun h17 i hi2 => by simp [h.p17 (by simpa using h17) i hi2]), (by simpa using h.p18), (by simpa using h.mem)⟩
theorem ApB.step13 {n sb P ib B j k : Nat} {val : Value} {xs : List Nat} {w0 : World} {s0 : Nat → Value} {L : Nat → Bool} {s : Nat → Value} {w : World} (h : ApB n sb P ib B j k val xs w0 s0 L s w) : ApB n sb P ib B j k val xs w0 s0 (fun i => L i || i == 13) (fun i => if i = 82 then val else s i) w := by
  have hr : ∀ i, ¬ (69 ≤ i ∧ i ≤ 86) → (if i = 82 then val else s i) = s0 i := fun i h1 => by rw [if_neg (by omega)]; exact h.rest i h1
  refine ⟨hr, (by simpa using h.q0), (by simpa using h.q1), (by simpa using h.q2), (by simpa using h.q3), (by simpa using h.q4), (by simpa using h.q5), (by simpa using h.q6), (by simpa using h.q7), (by simpa using h.q8), (by simpa using h.q9), (by simpa using h.q10), (by simpa using h.q11), (by simpa using h.q12), (fun _ => by simp), (by simpa using h.q14), (by simpa using h.q17), (by simpa using h.q15), (by simpa using h.e0), (by simpa using h.e1), (by simpa using h.e2), (by simpa using h.p16), (fun h17 i hi2 => by simp [h.p17 (by simpa using h17) i hi2]), (by simpa using h.p18), (by simpa using h.mem)⟩
theorem ApB.step14 {n sb P ib B j k : Nat} {val : Value} {xs : List Nat} {w0 : World} {s0 : Nat → Value} {L : Nat → Bool} {s : Nat → Value} {w : World} (h : ApB n sb P ib B j k val xs w0 s0 L s w) : ApB n sb P ib B j k val xs w0 s0 (fun i => L i || i == 14) (fun i => if i = 83 then (.int .i64 (k : Nat)) else s i) w := by
  have hr : ∀ i, ¬ (69 ≤ i ∧ i ≤ 86) → (if i = 83 then (.int .i64 (k : Nat)) else s i) = s0 i := fun i h1 => by rw [if_neg (by omega)]; exact h.rest i h1
  refine ⟨hr, (by simpa using h.q0), (by simpa using h.q1), (by simpa using h.q2), (by simpa using h.q3), (by simpa using h.q4), (by simpa using h.q5), (by simpa using h.q6), (by simpa using h.q7), (by simpa using h.q8), (by simpa using h.q9), (by simpa using h.q10), (by simpa using h.q11), (by simpa using h.q12), (by simpa using h.q13), (fun _ => by simp), (by simpa using h.q17), (by simpa using h.q15), (by simpa using h.e0), (by simpa using h.e1), (by simpa using h.e2), (by simpa using h.p16), (fun h17 i hi2 => by simp [h.p17 (by simpa using h17) i hi2]), (by simpa using h.p18), (by simpa using h.mem)⟩
theorem ApB.step17 {n sb P ib B j k : Nat} {val : Value} {xs : List Nat} {w0 : World} {s0 : Nat → Value} {L : Nat → Bool} {s : Nat → Value} {w : World} (h : ApB n sb P ib B j k val xs w0 s0 L s w) (hd : ∀ i, i < 17 → L i = true) : ApB n sb P ib B j k val xs w0 s0 (fun i => L i || i == 17) (fun i => if i = 86 then (.pointer (some ⟨ib, j, none⟩)) else s i) w := by
  have hr : ∀ i, ¬ (69 ≤ i ∧ i ≤ 86) → (if i = 86 then (.pointer (some ⟨ib, j, none⟩)) else s i) = s0 i := fun i h1 => by rw [if_neg (by omega)]; exact h.rest i h1
  refine ⟨hr, (by simpa using h.q0), (by simpa using h.q1), (by simpa using h.q2), (by simpa using h.q3), (by simpa using h.q4), (by simpa using h.q5), (by simpa using h.q6), (by simpa using h.q7), (by simpa using h.q8), (by simpa using h.q9), (by simpa using h.q10), (by simpa using h.q11), (by simpa using h.q12), (by simpa using h.q13), (by simpa using h.q14), (fun _ => by simp), (by simpa using h.q15), (by simpa using h.e0), (by simpa using h.e1), (by simpa using h.e2), (by simpa using h.p16), (fun _ i hi2 => by simp [hd i hi2]), (fun _ => by simp), (by simpa using h.mem)⟩
theorem ApB.step15 {n sb P ib B j k : Nat} {val : Value} {xs : List Nat} {w0 : World} {s0 : Nat → Value} {L : Nat → Bool} {s : Nat → Value} {w : World} (h : ApB n sb P ib B j k val xs w0 s0 L s w) (hi : L 15 = false) : ApB n sb P ib B j k val xs w0 s0 (fun i => L i || i == 15) (fun i => if i = 84 then (.slice (some ⟨w0.heap.size, 0, none⟩) 1 1) else s i) (w.alloc (.cells #[.int .i64 (k : Nat)] 3)) := by
  have hr : ∀ i, ¬ (69 ≤ i ∧ i ≤ 86) → (if i = 84 then (.slice (some ⟨w0.heap.size, 0, none⟩) 1 1) else s i) = s0 i := fun i h1 => by rw [if_neg (by omega)]; exact h.rest i h1
  refine ⟨hr, (by simpa using h.q0), (by simpa using h.q1), (by simpa using h.q2), (by simpa using h.q3), (by simpa using h.q4), (by simpa using h.q5), (by simpa using h.q6), (by simpa using h.q7), (by simpa using h.q8), (by simpa using h.q9), (by simpa using h.q10), (by simpa using h.q11), (by simpa using h.q12), (by simpa using h.q13), (by simpa using h.q14), (by simpa using h.q17), (fun _ => by simp), (fun _ h15 => by simp at h15), (fun h16 _ => by rw [h.e0 (by simpa using h16) hi]), (fun h16 => by
    have := h.p16 (by simpa using h16)
    rw [hi] at this
    cases this), (fun _ => by simp), (fun h17 i hi2 => by simp [h.p17 (by simpa using h17) i hi2]), (by simpa using h.p18), (fun h18 => by
    obtain ⟨m1, m2, m3, m4⟩ := h.mem (by simpa using h18)
    have e0 : ∀ b i v, w.cell? ⟨b, i, none⟩ = some v → (w.alloc (.cells #[.int .i64 (k : Nat)] 3)).cell? ⟨b, i, none⟩ = some v := fun b i v hv => (World.cell?_of_block (Below.heap_alloc w _ b (World.cell_lt hv))).trans hv
    exact ⟨e0 _ _ _ m1, e0 _ _ _ m2, e0 _ _ _ m3, (World.frozen?_of_block (Below.heap_alloc w _ ib (World.cell_lt m3))).trans m4⟩)⟩
theorem ApB.step16 {n sb P ib B j k : Nat} {val : Value} {xs : List Nat} {w0 : World} {s0 : Nat → Value} {L : Nat → Bool} {s : Nat → Value} {w : World} (h : ApB n sb P ib B j k val xs w0 s0 L s w) (hi : L 16 = false) (hd : L 15 = true) {g cap : Nat} {w3 : World} (hown : w3.ownsRow B 3 1 (.slice (some ⟨g, 0, none⟩) (xs.length + 1) cap) (xs.length + 1) (icells xs ++ [.int .i64 (k : Nat)])) (hs : Below B w0 w3) (hk : ∀ q, q < w0.heap.size → val.ownBlock ≠ some q → w3.heap[q]? = w0.heap[q]?) (hat : val.ownBlock = some g ∨ g = w0.heap.size + 1) (hlt : g < w3.heap.size)
    (hm : w3.cell? ⟨sb, 3, none⟩ = some (.slice (some ⟨ib, 0, none⟩) n n) ∧ w3.cell? ⟨P, 0, none⟩ = some (.int .i64 (j : Nat)) ∧ w3.cell? ⟨ib, j, none⟩ = some val ∧ w3.frozen? ⟨ib, j, none⟩ = false) : ApB n sb P ib B j k val xs w0 s0 (fun i => L i || i == 16) (fun i => if i = 85 then (.slice (some ⟨g, 0, none⟩) (xs.length + 1) cap) else s i) w3 := by
  have hr : ∀ i, ¬ (69 ≤ i ∧ i ≤ 86) → (if i = 85 then (.slice (some ⟨g, 0, none⟩) (xs.length + 1) cap) else s i) = s0 i := fun i h1 => by rw [if_neg (by omega)]; exact h.rest i h1
  refine ⟨hr, (by simpa using h.q0), (by simpa using h.q1), (by simpa using h.q2), (by simpa using h.q3), (by simpa using h.q4), (by simpa using h.q5), (by simpa using h.q6), (by simpa using h.q7), (by simpa using h.q8), (by simpa using h.q9), (by simpa using h.q10), (by simpa using h.q11), (by simpa using h.q12), (by simpa using h.q13), (by simpa using h.q14), (by simpa using h.q17), (by simpa using h.q15), (fun h16 => by simp at h16), (fun h16 => by simp at h16), (fun _ => ⟨g, cap, w3, hown, hs, hk, hat, hlt, by simp, fun _ => rfl, fun h18 => by
    have := h.p17 (h.p18 (by simpa using h18)) 16 (by omega)
    rw [hi] at this
    cases this⟩), (fun _ => by simpa using hd), (fun h17 i hi2 => by simp [h.p17 (by simpa using h17) i hi2]), (by simpa using h.p18), (fun _ => hm)⟩
theorem ApB.step18 {n sb P ib B j k : Nat} {val : Value} {xs : List Nat} {w0 : World} {s0 : Nat → Value} {L : Nat → Bool} {s : Nat → Value} {w : World} (h : ApB n sb P ib B j k val xs w0 s0 L s w) (hi : L 18 = false) (hd : L 17 = true) : ApB n sb P ib B j k val xs w0 s0 (fun i => L i || i == 18) s (w.setCell ⟨ib, j, none⟩ (s 85)) := by
  have hr := h.rest
  refine ⟨hr, (by simpa using h.q0), (by simpa using h.q1), (by simpa using h.q2), (by simpa using h.q3), (by simpa using h.q4), (by simpa using h.q5), (by simpa using h.q6), (by simpa using h.q7), (by simpa using h.q8), (by simpa using h.q9), (by simpa using h.q10), (by simpa using h.q11), (by simpa using h.q12), (by simpa using h.q13), (by simpa using h.q14), (by simpa using h.q17), (by simpa using h.q15), (fun h16 => by
    rw [show L 16 = true from h.p17 hd 16 (by omega)] at h16
    simp at h16), (fun h16 => by
    rw [show L 16 = true from h.p17 hd 16 (by omega)] at h16
    simp at h16), (fun _ => by
    obtain ⟨g, cap, w3, a1, a2, a3, a4, a5, a6, a7, a8⟩ := h.e2 (h.p17 hd 16 (by omega))
    exact ⟨g, cap, w3, a1, a2, a3, a4, a5, a6, fun h18 => by simp at h18, fun _ => by rw [a7 hi, a6]⟩), (by simpa using h.p16), (fun h17 i hi2 => by simp [h.p17 (by simpa using h17) i hi2]), (fun _ => by simpa using hd), (fun h18 => by simp at h18)⟩
def InvB (a0 : Act) (n sb P ib B j k : Nat) (val : Value) (xs : List Nat) (w0 : World) (listed : Array Bool) (a : Act) (w : World) : Prop :=
  ∃ s, a.tmps.size = a0.tmps.size ∧ a.defers = a0.defers ∧ (∀ i, a.tmps.getD i undef = s i) ∧ ApB n sb P ib B j k val xs w0 (fun i => a0.tmps.getD i undef) (fun i => listed.getD i false) s w
theorem InvB.put {a0 : Act} {n sb P ib B j k : Nat} {val : Value} {xs : List Nat} {w0 : World} {s : Nat → Value} {w : World} {listed : Array Bool} {a : Act} {i d : Nat} {v : Value} (hs : a.tmps.size = a0.tmps.size) (hf : a.defers = a0.defers) (he : ∀ k, a.tmps.getD k undef = s k) (hd : d < a0.tmps.size) (hi : i < listed.size)
    (h : ApB n sb P ib B j k val xs w0 (fun k => a0.tmps.getD k undef) (fun j => listed.getD j false || j == i) (fun k => if k = d then v else s k) w) : InvB a0 n sb P ib B j k val xs w0 (listed.setIfInBounds i true) (a.put (some d) v) w := by
  refine ⟨_, by simp [Act.put, hs], by simp [Act.put, hf], fun k => ?_, by rw [show (fun j => (listed.setIfInBounds i true).getD j false) = fun j => listed.getD j false || j == i from funext fun j => getD_listed listed i hi j]; exact h⟩
  rw [getD_put a d v (by omega), he]
theorem caseB_0 {a0 : Act} {n sb P ib B j k : Nat} {val : Value} {xs : List Nat} {w0 : World} {w : World} {listed : Array Bool} {a : Act} (hsz : 87 ≤ a0.tmps.size) (hl : listed.size = 19) (h : InvB a0 n sb P ib B j k val xs w0 listed a w) (h7 : a0.tmps.getD 7 undef = (.pointer (some ⟨sb, 0, none⟩)))
    {Q : Exit → Act → World → Prop} (K : Act → World → Prop) (hK : ∀ a' w', InvB a0 n sb P ib B j k val xs w0 (listed.setIfInBounds 0 true) a' w' → K a' w') : wpOp Try.prog opsB Q 0 K a w := by
  obtain ⟨s, hs, hf, he, hM⟩ := h
  refine wpOp_run (o := opsB[0]) (w' := w) (v := (.pointer (some ⟨sb, 0, none⟩))) rfl rfl ?_ (hK _ _ (InvB.put (d := 69) hs hf he (by omega) (by omega) hM.step0))
  refine (BigFrame.run_move (.tmp 7) rfl w).trans ?_
  have := hM.rest 7 (by omega)
  show Result.ok (Next.value (a.tmps.getD 7 undef)) w = _
  rw [he, this]
  rw [h7]
theorem caseB_1 {a0 : Act} {n sb P ib B j k : Nat} {val : Value} {xs : List Nat} {w0 : World} {w : World} {listed : Array Bool} {a : Act} (hsz : 87 ≤ a0.tmps.size) (hl : listed.size = 19) (h : InvB a0 n sb P ib B j k val xs w0 listed a w) (d0 : listed.getD 0 false = true)
    {Q : Exit → Act → World → Prop} (K : Act → World → Prop) (hK : ∀ a' w', InvB a0 n sb P ib B j k val xs w0 (listed.setIfInBounds 1 true) a' w' → K a' w') : wpOp Try.prog opsB Q 1 K a w := by
  obtain ⟨s, hs, hf, he, hM⟩ := h
  have x0 : a.tmps[69]?.getD undef = (.pointer (some ⟨sb, 0, none⟩)) := (Array.getD_eq_getD_getElem?.symm.trans (he 69)).trans (hM.q0 d0)
  refine wpOp_run (o := opsB[1]) (w' := w) (v := (.pointer (some ⟨sb, 0, none⟩))) rfl rfl ?_ (hK _ _ (InvB.put (d := 70) hs hf he (by omega) (by omega) hM.step1))
  simp [opsB, execOp, x0, go_sem]
theorem caseB_2 {a0 : Act} {n sb P ib B j k : Nat} {val : Value} {xs : List Nat} {w0 : World} {w : World} {listed : Array Bool} {a : Act} (hsz : 87 ≤ a0.tmps.size) (hl : listed.size = 19) (h : InvB a0 n sb P ib B j k val xs w0 listed a w) (d1 : listed.getD 1 false = true)
    {Q : Exit → Act → World → Prop} (K : Act → World → Prop) (hK : ∀ a' w', InvB a0 n sb P ib B j k val xs w0 (listed.setIfInBounds 2 true) a' w' → K a' w') : wpOp Try.prog opsB Q 2 K a w := by
  obtain ⟨s, hs, hf, he, hM⟩ := h
  have x1 : a.tmps[70]?.getD undef = (.pointer (some ⟨sb, 0, none⟩)) := (Array.getD_eq_getD_getElem?.symm.trans (he 70)).trans (hM.q1 d1)
  refine wpOp_run (o := opsB[2]) (w' := w) (v := (.pointer (some ⟨sb, 3, none⟩))) rfl rfl ?_ (hK _ _ (InvB.put (d := 71) hs hf he (by omega) (by omega) hM.step2))
  simp [opsB, execOp, x1, go_sem]
theorem caseB_3 {a0 : Act} {n sb P ib B j k : Nat} {val : Value} {xs : List Nat} {w0 : World} {w : World} {listed : Array Bool} {a : Act} (hsz : 87 ≤ a0.tmps.size) (hl : listed.size = 19) (h : InvB a0 n sb P ib B j k val xs w0 listed a w) (d2 : listed.getD 2 false = true) (h18 : listed.getD 18 false = false)
    {Q : Exit → Act → World → Prop} (K : Act → World → Prop) (hK : ∀ a' w', InvB a0 n sb P ib B j k val xs w0 (listed.setIfInBounds 3 true) a' w' → K a' w') : wpOp Try.prog opsB Q 3 K a w := by
  obtain ⟨s, hs, hf, he, hM⟩ := h
  have x2 : a.tmps[71]?.getD undef = (.pointer (some ⟨sb, 3, none⟩)) := (Array.getD_eq_getD_getElem?.symm.trans (he 71)).trans (hM.q2 d2)
  obtain ⟨m1, m2, -, -⟩ := hM.mem h18
  refine wpOp_run (o := opsB[3]) (w' := w) (v := (.slice (some ⟨ib, 0, none⟩) n n)) rfl rfl ?_ (hK _ _ (InvB.put (d := 72) hs hf he (by omega) (by omega) hM.step3))
  simp [opsB, execOp, x2, m1, go_sem]
theorem caseB_4 {a0 : Act} {n sb P ib B j k : Nat} {val : Value} {xs : List Nat} {w0 : World} {w : World} {listed : Array Bool} {a : Act} (hsz : 87 ≤ a0.tmps.size) (hl : listed.size = 19) (h : InvB a0 n sb P ib B j k val xs w0 listed a w) (h9 : a0.tmps.getD 9 undef = .pointer (some ⟨P, 0, none⟩))
    {Q : Exit → Act → World → Prop} (K : Act → World → Prop) (hK : ∀ a' w', InvB a0 n sb P ib B j k val xs w0 (listed.setIfInBounds 4 true) a' w' → K a' w') : wpOp Try.prog opsB Q 4 K a w := by
  obtain ⟨s, hs, hf, he, hM⟩ := h
  have x9 : a.tmps[9]?.getD undef = .pointer (some ⟨P, 0, none⟩) := (Array.getD_eq_getD_getElem?.symm.trans (he 9)).trans ((hM.rest 9 (by omega)).trans h9)
  refine wpOp_run (o := opsB[4]) (w' := w) (v := (.pointer (some ⟨P, 0, none⟩))) rfl rfl ?_ (hK _ _ (InvB.put (d := 73) hs hf he (by omega) (by omega) hM.step4))
  simp [opsB, execOp, x9, go_sem]
theorem caseB_5 {a0 : Act} {n sb P ib B j k : Nat} {val : Value} {xs : List Nat} {w0 : World} {w : World} {listed : Array Bool} {a : Act} (hsz : 87 ≤ a0.tmps.size) (hl : listed.size = 19) (h : InvB a0 n sb P ib B j k val xs w0 listed a w) (d4 : listed.getD 4 false = true) (h18 : listed.getD 18 false = false)
    {Q : Exit → Act → World → Prop} (K : Act → World → Prop) (hK : ∀ a' w', InvB a0 n sb P ib B j k val xs w0 (listed.setIfInBounds 5 true) a' w' → K a' w') : wpOp Try.prog opsB Q 5 K a w := by
  obtain ⟨s, hs, hf, he, hM⟩ := h
  have x4 : a.tmps[73]?.getD undef = (.pointer (some ⟨P, 0, none⟩)) := (Array.getD_eq_getD_getElem?.symm.trans (he 73)).trans (hM.q4 d4)
  obtain ⟨m1, m2, -, -⟩ := hM.mem h18
  refine wpOp_run (o := opsB[5]) (w' := w) (v := (.int .i64 (j : Nat))) rfl rfl ?_ (hK _ _ (InvB.put (d := 74) hs hf he (by omega) (by omega) hM.step5))
  simp [opsB, execOp, x4, m2, go_sem]
theorem caseB_6 {a0 : Act} {n sb P ib B j k : Nat} {val : Value} {xs : List Nat} {w0 : World} {w : World} {listed : Array Bool} {a : Act} (hsz : 87 ≤ a0.tmps.size) (hl : listed.size = 19) (h : InvB a0 n sb P ib B j k val xs w0 listed a w) (h7 : a0.tmps.getD 7 undef = (.pointer (some ⟨sb, 0, none⟩)))
    {Q : Exit → Act → World → Prop} (K : Act → World → Prop) (hK : ∀ a' w', InvB a0 n sb P ib B j k val xs w0 (listed.setIfInBounds 6 true) a' w' → K a' w') : wpOp Try.prog opsB Q 6 K a w := by
  obtain ⟨s, hs, hf, he, hM⟩ := h
  refine wpOp_run (o := opsB[6]) (w' := w) (v := (.pointer (some ⟨sb, 0, none⟩))) rfl rfl ?_ (hK _ _ (InvB.put (d := 75) hs hf he (by omega) (by omega) hM.step6))
  refine (BigFrame.run_move (.tmp 7) rfl w).trans ?_
  have := hM.rest 7 (by omega)
  show Result.ok (Next.value (a.tmps.getD 7 undef)) w = _
  rw [he, this]
  rw [h7]
theorem caseB_7 {a0 : Act} {n sb P ib B j k : Nat} {val : Value} {xs : List Nat} {w0 : World} {w : World} {listed : Array Bool} {a : Act} (hsz : 87 ≤ a0.tmps.size) (hl : listed.size = 19) (h : InvB a0 n sb P ib B j k val xs w0 listed a w) (d6 : listed.getD 6 false = true)
    {Q : Exit → Act → World → Prop} (K : Act → World → Prop) (hK : ∀ a' w', InvB a0 n sb P ib B j k val xs w0 (listed.setIfInBounds 7 true) a' w' → K a' w') : wpOp Try.prog opsB Q 7 K a w := by
  obtain ⟨s, hs, hf, he, hM⟩ := h
  have x6 : a.tmps[75]?.getD undef = (.pointer (some ⟨sb, 0, none⟩)) := (Array.getD_eq_getD_getElem?.symm.trans (he 75)).trans (hM.q6 d6)
  refine wpOp_run (o := opsB[7]) (w' := w) (v := (.pointer (some ⟨sb, 0, none⟩))) rfl rfl ?_ (hK _ _ (InvB.put (d := 76) hs hf he (by omega) (by omega) hM.step7))
  simp [opsB, execOp, x6, go_sem]
theorem caseB_8 {a0 : Act} {n sb P ib B j k : Nat} {val : Value} {xs : List Nat} {w0 : World} {w : World} {listed : Array Bool} {a : Act} (hsz : 87 ≤ a0.tmps.size) (hl : listed.size = 19) (h : InvB a0 n sb P ib B j k val xs w0 listed a w) (d7 : listed.getD 7 false = true)
    {Q : Exit → Act → World → Prop} (K : Act → World → Prop) (hK : ∀ a' w', InvB a0 n sb P ib B j k val xs w0 (listed.setIfInBounds 8 true) a' w' → K a' w') : wpOp Try.prog opsB Q 8 K a w := by
  obtain ⟨s, hs, hf, he, hM⟩ := h
  have x7 : a.tmps[76]?.getD undef = (.pointer (some ⟨sb, 0, none⟩)) := (Array.getD_eq_getD_getElem?.symm.trans (he 76)).trans (hM.q7 d7)
  refine wpOp_run (o := opsB[8]) (w' := w) (v := (.pointer (some ⟨sb, 3, none⟩))) rfl rfl ?_ (hK _ _ (InvB.put (d := 77) hs hf he (by omega) (by omega) hM.step8))
  simp [opsB, execOp, x7, go_sem]
theorem caseB_9 {a0 : Act} {n sb P ib B j k : Nat} {val : Value} {xs : List Nat} {w0 : World} {w : World} {listed : Array Bool} {a : Act} (hsz : 87 ≤ a0.tmps.size) (hl : listed.size = 19) (h : InvB a0 n sb P ib B j k val xs w0 listed a w) (d8 : listed.getD 8 false = true) (h18 : listed.getD 18 false = false)
    {Q : Exit → Act → World → Prop} (K : Act → World → Prop) (hK : ∀ a' w', InvB a0 n sb P ib B j k val xs w0 (listed.setIfInBounds 9 true) a' w' → K a' w') : wpOp Try.prog opsB Q 9 K a w := by
  obtain ⟨s, hs, hf, he, hM⟩ := h
  have x8 : a.tmps[77]?.getD undef = (.pointer (some ⟨sb, 3, none⟩)) := (Array.getD_eq_getD_getElem?.symm.trans (he 77)).trans (hM.q8 d8)
  obtain ⟨m1, m2, -, -⟩ := hM.mem h18
  refine wpOp_run (o := opsB[9]) (w' := w) (v := (.slice (some ⟨ib, 0, none⟩) n n)) rfl rfl ?_ (hK _ _ (InvB.put (d := 78) hs hf he (by omega) (by omega) hM.step9))
  simp [opsB, execOp, x8, m1, go_sem]
theorem caseB_10 {a0 : Act} {n sb P ib B j k : Nat} {val : Value} {xs : List Nat} {w0 : World} {w : World} {listed : Array Bool} {a : Act} (hsz : 87 ≤ a0.tmps.size) (hl : listed.size = 19) (h : InvB a0 n sb P ib B j k val xs w0 listed a w) (h9 : a0.tmps.getD 9 undef = .pointer (some ⟨P, 0, none⟩))
    {Q : Exit → Act → World → Prop} (K : Act → World → Prop) (hK : ∀ a' w', InvB a0 n sb P ib B j k val xs w0 (listed.setIfInBounds 10 true) a' w' → K a' w') : wpOp Try.prog opsB Q 10 K a w := by
  obtain ⟨s, hs, hf, he, hM⟩ := h
  have x9 : a.tmps[9]?.getD undef = .pointer (some ⟨P, 0, none⟩) := (Array.getD_eq_getD_getElem?.symm.trans (he 9)).trans ((hM.rest 9 (by omega)).trans h9)
  refine wpOp_run (o := opsB[10]) (w' := w) (v := (.pointer (some ⟨P, 0, none⟩))) rfl rfl ?_ (hK _ _ (InvB.put (d := 79) hs hf he (by omega) (by omega) hM.step10))
  simp [opsB, execOp, x9, go_sem]
theorem caseB_11 {a0 : Act} {n sb P ib B j k : Nat} {val : Value} {xs : List Nat} {w0 : World} {w : World} {listed : Array Bool} {a : Act} (hsz : 87 ≤ a0.tmps.size) (hl : listed.size = 19) (h : InvB a0 n sb P ib B j k val xs w0 listed a w) (d10 : listed.getD 10 false = true) (h18 : listed.getD 18 false = false)
    {Q : Exit → Act → World → Prop} (K : Act → World → Prop) (hK : ∀ a' w', InvB a0 n sb P ib B j k val xs w0 (listed.setIfInBounds 11 true) a' w' → K a' w') : wpOp Try.prog opsB Q 11 K a w := by
  obtain ⟨s, hs, hf, he, hM⟩ := h
  have x10 : a.tmps[79]?.getD undef = (.pointer (some ⟨P, 0, none⟩)) := (Array.getD_eq_getD_getElem?.symm.trans (he 79)).trans (hM.q10 d10)
  obtain ⟨m1, m2, -, -⟩ := hM.mem h18
  refine wpOp_run (o := opsB[11]) (w' := w) (v := (.int .i64 (j : Nat))) rfl rfl ?_ (hK _ _ (InvB.put (d := 80) hs hf he (by omega) (by omega) hM.step11))
  simp [opsB, execOp, x10, m2, go_sem]
theorem caseB_12 {a0 : Act} {n sb P ib B j k : Nat} {val : Value} {xs : List Nat} {w0 : World} {w : World} {listed : Array Bool} {a : Act} (hsz : 87 ≤ a0.tmps.size) (hl : listed.size = 19) (h : InvB a0 n sb P ib B j k val xs w0 listed a w) (d9 : listed.getD 9 false = true) (d11 : listed.getD 11 false = true) (hj : (j : Int) < (n : Int))
    {Q : Exit → Act → World → Prop} (K : Act → World → Prop) (hK : ∀ a' w', InvB a0 n sb P ib B j k val xs w0 (listed.setIfInBounds 12 true) a' w' → K a' w') : wpOp Try.prog opsB Q 12 K a w := by
  obtain ⟨s, hs, hf, he, hM⟩ := h
  have x9 : a.tmps[78]?.getD undef = (.slice (some ⟨ib, 0, none⟩) n n) := (Array.getD_eq_getD_getElem?.symm.trans (he 78)).trans (hM.q9 d9)
  have x11 : a.tmps[80]?.getD undef = (.int .i64 (j : Nat)) := (Array.getD_eq_getD_getElem?.symm.trans (he 80)).trans (hM.q11 d11)
  have hj0 : (0 : Int) ≤ (j : Int) := Int.natCast_nonneg j
  refine wpOp_run (o := opsB[12]) (w' := w) (v := (.pointer (some ⟨ib, j, none⟩))) rfl rfl ?_ (hK _ _ (InvB.put (d := 81) hs hf he (by omega) (by omega) hM.step12))
  simp [opsB, execOp, x9, x11, hj, go_sem]
theorem caseB_13 {a0 : Act} {n sb P ib B j k : Nat} {val : Value} {xs : List Nat} {w0 : World} {w : World} {listed : Array Bool} {a : Act} (hsz : 87 ≤ a0.tmps.size) (hl : listed.size = 19) (h : InvB a0 n sb P ib B j k val xs w0 listed a w) (d12 : listed.getD 12 false = true) (h18 : listed.getD 18 false = false)
    {Q : Exit → Act → World → Prop} (K : Act → World → Prop) (hK : ∀ a' w', InvB a0 n sb P ib B j k val xs w0 (listed.setIfInBounds 13 true) a' w' → K a' w') : wpOp Try.prog opsB Q 13 K a w := by
  obtain ⟨s, hs, hf, he, hM⟩ := h
  have x12 : a.tmps[81]?.getD undef = (.pointer (some ⟨ib, j, none⟩)) := (Array.getD_eq_getD_getElem?.symm.trans (he 81)).trans (hM.q12 d12)
  obtain ⟨-, -, m3, -⟩ := hM.mem h18
  refine wpOp_run (o := opsB[13]) (w' := w) (v := val) rfl rfl ?_ (hK _ _ (InvB.put (d := 82) hs hf he (by omega) (by omega) hM.step13))
  simp [opsB, execOp, x12, m3, go_sem]
theorem caseB_14 {a0 : Act} {n sb P ib B j k : Nat} {val : Value} {xs : List Nat} {w0 : World} {w : World} {listed : Array Bool} {a : Act} (hsz : 87 ≤ a0.tmps.size) (hl : listed.size = 19) (h : InvB a0 n sb P ib B j k val xs w0 listed a w) (h8 : a0.tmps.getD 8 undef = (.int .i64 (k : Nat)))
    {Q : Exit → Act → World → Prop} (K : Act → World → Prop) (hK : ∀ a' w', InvB a0 n sb P ib B j k val xs w0 (listed.setIfInBounds 14 true) a' w' → K a' w') : wpOp Try.prog opsB Q 14 K a w := by
  obtain ⟨s, hs, hf, he, hM⟩ := h
  refine wpOp_run (o := opsB[14]) (w' := w) (v := (.int .i64 (k : Nat))) rfl rfl ?_ (hK _ _ (InvB.put (d := 83) hs hf he (by omega) (by omega) hM.step14))
  refine (BigFrame.run_move (.tmp 8) rfl w).trans ?_
  have := hM.rest 8 (by omega)
  show Result.ok (Next.value (a.tmps.getD 8 undef)) w = _
  rw [he, this]
  rw [h8]
theorem caseB_17 {a0 : Act} {n sb P ib B j k : Nat} {val : Value} {xs : List Nat} {w0 : World} {w : World} {listed : Array Bool} {a : Act} (hsz : 87 ≤ a0.tmps.size) (hl : listed.size = 19) (h : InvB a0 n sb P ib B j k val xs w0 listed a w) (d3 : listed.getD 3 false = true) (d5 : listed.getD 5 false = true) (hj : (j : Int) < (n : Int)) (dall : ∀ i, i < 17 → listed.getD i false = true)
    {Q : Exit → Act → World → Prop} (K : Act → World → Prop) (hK : ∀ a' w', InvB a0 n sb P ib B j k val xs w0 (listed.setIfInBounds 17 true) a' w' → K a' w') : wpOp Try.prog opsB Q 17 K a w := by
  obtain ⟨s, hs, hf, he, hM⟩ := h
  have x3 : a.tmps[72]?.getD undef = (.slice (some ⟨ib, 0, none⟩) n n) := (Array.getD_eq_getD_getElem?.symm.trans (he 72)).trans (hM.q3 d3)
  have x5 : a.tmps[74]?.getD undef = (.int .i64 (j : Nat)) := (Array.getD_eq_getD_getElem?.symm.trans (he 74)).trans (hM.q5 d5)
  have hj0 : (0 : Int) ≤ (j : Int) := Int.natCast_nonneg j
  refine wpOp_run (o := opsB[17]) (w' := w) (v := (.pointer (some ⟨ib, j, none⟩))) rfl rfl ?_ (hK _ _ (InvB.put (d := 86) hs hf he (by omega) (by omega) (hM.step17 dall)))
  simp [opsB, execOp, x3, x5, hj, go_sem]
theorem caseB_15 {a0 : Act} {n sb P ib B j k : Nat} {val : Value} {xs : List Nat} {w0 : World} {w : World} {listed : Array Bool} {a : Act} (hsz : 87 ≤ a0.tmps.size) (hl : listed.size = 19) (h : InvB a0 n sb P ib B j k val xs w0 listed a w) (d14 : listed.getD 14 false = true) (hi : listed.getD 15 false = false)
    {Q : Exit → Act → World → Prop} (K : Act → World → Prop) (hK : ∀ a' w', InvB a0 n sb P ib B j k val xs w0 (listed.setIfInBounds 15 true) a' w' → K a' w') : wpOp Try.prog opsB Q 15 K a w := by
  obtain ⟨s, hs, hf, he, hM⟩ := h
  have x14 : a.tmps[83]?.getD undef = (.int .i64 (k : Nat)) := (Array.getD_eq_getD_getElem?.symm.trans (he 83)).trans (hM.q14 d14)
  have h16 : listed.getD 16 false = false := by
    cases hc : listed.getD 16 false with
    | false => rfl
    | true =>
      have := hM.p16 hc
      rw [hi] at this
      cases this
  have hw := hM.e0 h16 hi
  refine wpOp_run (o := opsB[15]) (w' := w.alloc (.cells #[.int .i64 (k : Nat)] 3)) (v := (.slice (some ⟨w0.heap.size, 0, none⟩) 1 1)) rfl rfl ?_ (hK _ _ (InvB.put (d := 84) hs hf he (by omega) (by omega) (hM.step15 hi)))
  rw [← hw]
  simp [opsB, execOp, x14, go_sem]
theorem caseB_16 {a0 : Act} {n sb P ib B j k : Nat} {val : Value} {xs : List Nat} {w0 : World} {w : World} {listed : Array Bool} {a : Act} (hsz : 87 ≤ a0.tmps.size) (hl : listed.size = 19) (h : InvB a0 n sb P ib B j k val xs w0 listed a w) (d13 : listed.getD 13 false = true) (d15 : listed.getD 15 false = true) (hi : listed.getD 16 false = false)
    (hown : w0.ownsRow B 3 1 val xs.length (icells xs)) (hsb : sb < B) (hib : ib < B) (hP : val.ownBlock ≠ some P) (hB : B ≤ w0.heap.size) (hlen : xs.length ≤ 16777216)
    {Q : Exit → Act → World → Prop} (K : Act → World → Prop) (hK : ∀ a' w', InvB a0 n sb P ib B j k val xs w0 (listed.setIfInBounds 16 true) a' w' → K a' w') : wpOp Try.prog opsB Q 16 K a w := by
  obtain ⟨s, hs, hf, he, hM⟩ := h
  have x13 : a.eval (.tmp 82) = val := (he 82).trans (hM.q13 d13)
  have x15 : a.eval (.tmp 84) = (.slice (some ⟨w0.heap.size, 0, none⟩) 1 1) := (he 84).trans (hM.q15 d15)
  have hw := hM.e1 hi d15
  have h18 : listed.getD 18 false = false := by
    cases hc : listed.getD 18 false with
    | false => rfl
    | true =>
      have := hM.p17 (hM.p18 hc) 16 (by omega)
      rw [hi] at this
      cases this
  obtain ⟨m1, m2, m3, m4⟩ := hM.mem h18
  obtain ⟨i0, hi0, hz0, hz1, hz2⟩ := info_parts int_info
  have hblk : ∀ q, val.ownBlock = some q → B ≤ q ∧ q < w0.heap.size := ownsRow_block hown
  subst hw
  obtain ⟨g, cap, w3, hr, h2, h3, h4, h5⟩ := run_append_lies (P := Try.prog) (w0.alloc (.cells #[.int .i64 (k : Nat)] 3)) 51 51 B 3 i0 _ 1 8 Try.underlying51 hi0 hz0 hz1 hz2 rfl (by omega) val xs.length (icells xs) (hown.alloc _)
    ⟨w0.heap.size, 0, none⟩ 1 1 [.int .i64 (k : Nat)] rfl (World.news_of_block (cs := #[.int .i64 (k : Nat)]) (t := 3) (fr := (0, 0)) (heap_alloc_new w0 _)) (by simp [Value.oneCell']) (by omega) (by unfold maxLen; omega) (by omega) (by simp; omega) (w0.heap.size + 1) (by simp)
  have hk : ∀ q, q < w0.heap.size → val.ownBlock ≠ some q → w3.heap[q]? = (w0.alloc (.cells #[.int .i64 (k : Nat)] 3)).heap[q]? := fun q hq hne => h3.block q (by simp; omega) (Ne.symm hne)
  have hk0 : ∀ q, q < w0.heap.size → val.ownBlock ≠ some q → w3.heap[q]? = w0.heap[q]? := fun q hq hne => (hk q hq hne).trans (Below.heap_alloc w0 _ q hq)
  have hPw : val.ownBlock ≠ some P := hP
  have hPl : P < (w0.alloc (.cells #[.int .i64 (k : Nat)] 3)).heap.size := World.cell_lt m2
  have hk2 : ∀ q, q < (w0.alloc (.cells #[.int .i64 (k : Nat)] 3)).heap.size → val.ownBlock ≠ some q → w3.heap[q]? = (w0.alloc (.cells #[.int .i64 (k : Nat)] 3)).heap[q]? := fun q hq hne => h3.block q hq (Ne.symm hne)
  have nsb : val.ownBlock ≠ some sb := fun e => by have := (hblk _ e).1; omega
  have nib : val.ownBlock ≠ some ib := fun e => by have := (hblk _ e).1; omega
  have hsz3 : Below B w0 w3 := ((Below.refl B w0).alloc hB _).grown h3 (by simp; omega) (fun q e => (hblk q e).1)
  refine wpOp_run (o := opsB[16]) (w' := w3) (v := .slice (some ⟨g, 0, none⟩) (xs.length + 1) cap) rfl rfl ?_ (hK _ _ (InvB.put (d := 85) hs hf he (by omega) (by omega) (hM.step16 hi d15 h2 hsz3 hk0 h4 h5 ⟨?_, ?_, ?_, ?_⟩)))
  · unfold execOp
    simp only [opsB, List.getElem_toArray, List.getElem_cons_succ, List.getElem_cons_zero, resolve, invoke, builtin, Sem.run_bind, Sem.run_pure, Result.andThen_ok, List.map_toArray, List.map_cons, List.map_nil, x13, x15, hr]
  · exact (World.cell?_of_block (hk2 _ (World.cell_lt m1) nsb)).trans m1
  · exact (World.cell?_of_block (hk2 _ hPl hPw)).trans m2
  · exact (World.cell?_of_block (hk2 _ (World.cell_lt m3) nib)).trans m3
  · exact (World.frozen?_of_block (hk2 _ (World.cell_lt m3) nib)).trans m4
theorem caseB_18 {a0 : Act} {n sb P ib B j k : Nat} {val : Value} {xs : List Nat} {w0 : World} {w : World} {listed : Array Bool} {a : Act} (_hsz : 87 ≤ a0.tmps.size) (hl : listed.size = 19) (h : InvB a0 n sb P ib B j k val xs w0 listed a w) (d17 : listed.getD 17 false = true) (d16 : listed.getD 16 false = true) (hi : listed.getD 18 false = false)
    {Q : Exit → Act → World → Prop} (K : Act → World → Prop) (hK : ∀ a' w', InvB a0 n sb P ib B j k val xs w0 (listed.setIfInBounds 18 true) a' w' → K a' w') : wpOp Try.prog opsB Q 18 K a w := by
  obtain ⟨s, hs, hf, he, hM⟩ := h
  have x17 : a.tmps[86]?.getD undef = (.pointer (some ⟨ib, j, none⟩)) := (Array.getD_eq_getD_getElem?.symm.trans (he 86)).trans (hM.q17 d17)
  obtain ⟨-, -, m3, m4⟩ := hM.mem hi
  obtain ⟨g, cap, w3, -, -, -, -, -, b6, -, -⟩ := hM.e2 d16
  have x16 : a.tmps[85]?.getD undef = .slice (some ⟨g, 0, none⟩) (xs.length + 1) cap := (Array.getD_eq_getD_getElem?.symm.trans (he 85)).trans b6
  have hM2 := hM.step18 hi d17
  rw [b6] at hM2
  refine wpOp_skip (o := opsB[18]) (w' := w.setCell ⟨ib, j, none⟩ (.slice (some ⟨g, 0, none⟩) (xs.length + 1) cap)) rfl rfl rfl ?_ (hK _ _ ⟨s, hs, hf, he, by rw [show (fun j => (listed.setIfInBounds 18 true).getD j false) = fun j => listed.getD j false || j == 18 from funext fun j => getD_listed listed 18 (by omega) j]; exact hM2⟩)
  simp [opsB, execOp, x17, x16, m3, m4, go_sem]
theorem no18_B {a0 : Act} {n sb P ib B j k : Nat} {val : Value} {xs : List Nat} {w0 : World} {w : World} {listed : Array Bool} {a : Act} (h : InvB a0 n sb P ib B j k val xs w0 listed a w) (i : Nat) (hi : i < 17) (hf : listed.getD i false = false) : listed.getD 18 false = false := by
  obtain ⟨s, -, -, -, hM⟩ := h
  cases hc : listed.getD 18 false with
  | false => rfl
  | true =>
    have := hM.p17 (hM.p18 hc) i hi
    rw [hf] at this
    cases this
theorem seventeenB (x : Nat) (hx : x < 17) : ∃ e : Edge, e ∈ opsB[17].after ∧ e.on = x ∧ Region.binds .any e = true := by
  have hc : x = 0 ∨ x = 1 ∨ x = 2 ∨ x = 3 ∨ x = 4 ∨ x = 5 ∨ x = 6 ∨ x = 7 ∨ x = 8 ∨ x = 9 ∨ x = 10 ∨ x = 11 ∨ x = 12 ∨ x = 13 ∨ x = 14 ∨ x = 15 ∨ x = 16 := by omega
  rcases hc with rfl | rfl | rfl | rfl | rfl | rfl | rfl | rfl | rfl | rfl | rfl | rfl | rfl | rfl | rfl | rfl | rfl <;> exact ⟨⟨_, Ground.phase⟩, by simp [opsB], rfl, rfl⟩
set_option maxHeartbeats 2000000 in
theorem app_regionB (a0 : Act) (w1 : World) (n sb P ib B j k : Nat) (val : Value) (xs : List Nat) (hsz : 87 ≤ a0.tmps.size)
    (h7 : a0.tmps.getD 7 undef = .pointer (some ⟨sb, 0, none⟩)) (h8 : a0.tmps.getD 8 undef = .int .i64 (k : Nat)) (h9 : a0.tmps.getD 9 undef = .pointer (some ⟨P, 0, none⟩))
    (cS : w1.cell? ⟨sb, 3, none⟩ = some (.slice (some ⟨ib, 0, none⟩) n n)) (cP : w1.cell? ⟨P, 0, none⟩ = some (.int .i64 (j : Nat))) (cI : w1.cell? ⟨ib, j, none⟩ = some val) (fI : w1.frozen? ⟨ib, j, none⟩ = false)
    (hown0 : w1.ownsRow B 3 1 val xs.length (icells xs)) (hsb : sb < B) (hib : ib < B) (hP : val.ownBlock ≠ some P) (hB0 : B ≤ w1.heap.size) (hjn : j < n) (hlen : xs.length ≤ 16777216)
    (id : Nat) (Q : Exit → Act → World → Prop)
    (hQ : ∀ (g cap : Nat) (w3 : World) (x : Nat → Value), w3.ownsRow B 3 1 (.slice (some ⟨g, 0, none⟩) (xs.length + 1) cap) (xs.length + 1) (icells xs ++ [.int .i64 (k : Nat)]) → Below B w1 w3 → (∀ q, q < w1.heap.size → val.ownBlock ≠ some q → w3.heap[q]? = w1.heap[q]?) → (val.ownBlock = some g ∨ g = w1.heap.size + 1) → g < w3.heap.size →
      Q .normal ((((((((((((((((((a0.put (some 69) (x 69)).put (some 70) (x 70)).put (some 71) (x 71)).put (some 72) (x 72)).put (some 73) (x 73)).put (some 74) (x 74)).put (some 75) (x 75)).put (some 76) (x 76)).put (some 77) (x 77)).put (some 78) (x 78)).put (some 79) (x 79)).put (some 80) (x 80)).put (some 81) (x 81)).put (some 82) (x 82)).put (some 83) (x 83)).put (some 84) (x 84)).put (some 85) (x 85)).put (some 86) (x 86)) (w3.setCell ⟨ib, j, none⟩ (.slice (some ⟨g, 0, none⟩) (xs.length + 1) cap))) : (Code.region id opsB true).wp Try.prog Q a0 w1 := by
  have hj : (j : Int) < (n : Int) := by omega
  have hown : w1.drew.ownsRow B 3 1 val xs.length (icells xs) := hown0.drew
  have hB : B ≤ w1.drew.heap.size := hB0
  refine wp_region_any (by kernel_rfl) (wpAny_inv (InvB a0 n sb P ib B j k val xs w1.drew) ?_ ?_ opsB.size _ a0 _ (by simp) (by simp [opsB]) ?_)
  · intro listed a w i hls h hi K hK
    have hl : listed.size = 19 := hls
    obtain ⟨hff, o, ho, hdep0⟩ := mem_ready.1 hi
    have hf := false_of listed i hff
    have hi19 : i < 19 := by
      rcases Nat.lt_or_ge i 19 with h' | h'
      · exact h'
      · have : opsB[i]? = none := Array.getElem?_eq_none h'
        rw [this] at ho; cases ho
    have hdep : ∀ (o' : Oper), opsB[i]? = some o' → ∀ e ∈ o'.after, Region.binds .any e = true → listed.getD e.on false = true := fun o' ho' e he hb => by
      rw [ho] at ho'
      have := Option.some.inj ho'
      subst this
      exact hdep0 e he hb
    have hc : i = 0 ∨ i = 1 ∨ i = 2 ∨ i = 3 ∨ i = 4 ∨ i = 5 ∨ i = 6 ∨ i = 7 ∨ i = 8 ∨ i = 9 ∨ i = 10 ∨ i = 11 ∨ i = 12 ∨ i = 13 ∨ i = 14 ∨ i = 15 ∨ i = 16 ∨ i = 17 ∨ i = 18 := by omega
    clear hdep0 ho hi hff
    rcases hc with rfl | rfl | rfl | rfl | rfl | rfl | rfl | rfl | rfl | rfl | rfl | rfl | rfl | rfl | rfl | rfl | rfl | rfl | rfl
    · exact caseB_0 hsz hl h h7 K hK
    · have hd : ∀ j, (⟨j, Ground.data⟩ : Edge) ∈ opsB[1].after → listed.getD j false = true := fun j hj => hdep _ rfl _ hj rfl
      exact caseB_1 hsz hl h (hd 0 (by simp [opsB])) K hK
    · have hd : ∀ j, (⟨j, Ground.data⟩ : Edge) ∈ opsB[2].after → listed.getD j false = true := fun j hj => hdep _ rfl _ hj rfl
      exact caseB_2 hsz hl h (hd 1 (by simp [opsB])) K hK
    · have hd : ∀ j, (⟨j, Ground.data⟩ : Edge) ∈ opsB[3].after → listed.getD j false = true := fun j hj => hdep _ rfl _ hj rfl
      exact caseB_3 hsz hl h (hd 2 (by simp [opsB])) (no18_B h 3 (by omega) hf) K hK
    · exact caseB_4 hsz hl h h9 K hK
    · have hd : ∀ j, (⟨j, Ground.data⟩ : Edge) ∈ opsB[5].after → listed.getD j false = true := fun j hj => hdep _ rfl _ hj rfl
      exact caseB_5 hsz hl h (hd 4 (by simp [opsB])) (no18_B h 5 (by omega) hf) K hK
    · exact caseB_6 hsz hl h h7 K hK
    · have hd : ∀ j, (⟨j, Ground.data⟩ : Edge) ∈ opsB[7].after → listed.getD j false = true := fun j hj => hdep _ rfl _ hj rfl
      exact caseB_7 hsz hl h (hd 6 (by simp [opsB])) K hK
    · have hd : ∀ j, (⟨j, Ground.data⟩ : Edge) ∈ opsB[8].after → listed.getD j false = true := fun j hj => hdep _ rfl _ hj rfl
      exact caseB_8 hsz hl h (hd 7 (by simp [opsB])) K hK
    · have hd : ∀ j, (⟨j, Ground.data⟩ : Edge) ∈ opsB[9].after → listed.getD j false = true := fun j hj => hdep _ rfl _ hj rfl
      exact caseB_9 hsz hl h (hd 8 (by simp [opsB])) (no18_B h 9 (by omega) hf) K hK
    · exact caseB_10 hsz hl h h9 K hK
    · have hd : ∀ j, (⟨j, Ground.data⟩ : Edge) ∈ opsB[11].after → listed.getD j false = true := fun j hj => hdep _ rfl _ hj rfl
      exact caseB_11 hsz hl h (hd 10 (by simp [opsB])) (no18_B h 11 (by omega) hf) K hK
    · have hd : ∀ j, (⟨j, Ground.data⟩ : Edge) ∈ opsB[12].after → listed.getD j false = true := fun j hj => hdep _ rfl _ hj rfl
      exact caseB_12 hsz hl h (hd 9 (by simp [opsB])) (hd 11 (by simp [opsB])) hj K hK
    · have hd : ∀ j, (⟨j, Ground.data⟩ : Edge) ∈ opsB[13].after → listed.getD j false = true := fun j hj => hdep _ rfl _ hj rfl
      exact caseB_13 hsz hl h (hd 12 (by simp [opsB])) (no18_B h 13 (by omega) hf) K hK
    · exact caseB_14 hsz hl h h8 K hK
    · have hd : ∀ j, (⟨j, Ground.data⟩ : Edge) ∈ opsB[15].after → listed.getD j false = true := fun j hj => hdep _ rfl _ hj rfl
      exact caseB_15 hsz hl h (hd 14 (by simp [opsB])) hf K hK
    · have hd : ∀ j, (⟨j, Ground.data⟩ : Edge) ∈ opsB[16].after → listed.getD j false = true := fun j hj => hdep _ rfl _ hj rfl
      exact caseB_16 hsz hl h (hd 13 (by simp [opsB])) (hd 15 (by simp [opsB])) hf hown hsb hib hP hB hlen K hK
    · have hd : ∀ j, (⟨j, Ground.data⟩ : Edge) ∈ opsB[17].after → listed.getD j false = true := fun j hj => hdep _ rfl _ hj rfl
      exact caseB_17 hsz hl h (hd 3 (by simp [opsB])) (hd 5 (by simp [opsB])) hj (fun x hx => by obtain ⟨e, he, rfl, hb⟩ := seventeenB x hx; exact hdep _ rfl e he hb) K hK
    · have hd : ∀ j, (⟨j, Ground.data⟩ : Edge) ∈ opsB[18].after → listed.getD j false = true := fun j hj => hdep _ rfl _ hj rfl
      exact caseB_18 hsz hl h (hd 17 (by simp [opsB])) (hd 16 (by simp [opsB])) hf K hK
  · intro listed a w hls h hr
    have hl : listed.size = 19 := hls
    have l0 : listed.getD 0 false = true := by
      cases hc : listed.getD 0 false with
      | true => rfl
      | false =>
        have ha : ∀ e ∈ opsB[0].after, listed.getD e.on false = true := by
          intro e he
          have ho : e.on ∈ opsB[0].after.toList.map (·.on) := List.mem_map.2 ⟨e, Array.mem_toList_iff.2 he, rfl⟩
          have hll : opsB[0].after.toList.map (·.on) = [] := rfl
          rw [hll] at ho
          generalize e.on = j at ho
          cases ho
          skip
        have hm : 0 ∈ Region.ready .any opsB listed := mem_ready.2 ⟨true_of listed 0 (by omega) hc, _, rfl, fun e he _ => ha e he⟩
        rw [hr] at hm
        cases hm
    have l1 : listed.getD 1 false = true := by
      cases hc : listed.getD 1 false with
      | true => rfl
      | false =>
        have ha : ∀ e ∈ opsB[1].after, listed.getD e.on false = true := by
          intro e he
          have ho : e.on ∈ opsB[1].after.toList.map (·.on) := List.mem_map.2 ⟨e, Array.mem_toList_iff.2 he, rfl⟩
          have hll : opsB[1].after.toList.map (·.on) = [0] := rfl
          rw [hll] at ho
          generalize e.on = j at ho
          simp at ho
          subst ho; assumption
        have hm : 1 ∈ Region.ready .any opsB listed := mem_ready.2 ⟨true_of listed 1 (by omega) hc, _, rfl, fun e he _ => ha e he⟩
        rw [hr] at hm
        cases hm
    have l2 : listed.getD 2 false = true := by
      cases hc : listed.getD 2 false with
      | true => rfl
      | false =>
        have ha : ∀ e ∈ opsB[2].after, listed.getD e.on false = true := by
          intro e he
          have ho : e.on ∈ opsB[2].after.toList.map (·.on) := List.mem_map.2 ⟨e, Array.mem_toList_iff.2 he, rfl⟩
          have hll : opsB[2].after.toList.map (·.on) = [1] := rfl
          rw [hll] at ho
          generalize e.on = j at ho
          simp at ho
          subst ho; assumption
        have hm : 2 ∈ Region.ready .any opsB listed := mem_ready.2 ⟨true_of listed 2 (by omega) hc, _, rfl, fun e he _ => ha e he⟩
        rw [hr] at hm
        cases hm
    have l3 : listed.getD 3 false = true := by
      cases hc : listed.getD 3 false with
      | true => rfl
      | false =>
        have ha : ∀ e ∈ opsB[3].after, listed.getD e.on false = true := by
          intro e he
          have ho : e.on ∈ opsB[3].after.toList.map (·.on) := List.mem_map.2 ⟨e, Array.mem_toList_iff.2 he, rfl⟩
          have hll : opsB[3].after.toList.map (·.on) = [2] := rfl
          rw [hll] at ho
          generalize e.on = j at ho
          simp at ho
          subst ho; assumption
        have hm : 3 ∈ Region.ready .any opsB listed := mem_ready.2 ⟨true_of listed 3 (by omega) hc, _, rfl, fun e he _ => ha e he⟩
        rw [hr] at hm
        cases hm
    have l4 : listed.getD 4 false = true := by
      cases hc : listed.getD 4 false with
      | true => rfl
      | false =>
        have ha : ∀ e ∈ opsB[4].after, listed.getD e.on false = true := by
          intro e he
          have ho : e.on ∈ opsB[4].after.toList.map (·.on) := List.mem_map.2 ⟨e, Array.mem_toList_iff.2 he, rfl⟩
          have hll : opsB[4].after.toList.map (·.on) = [] := rfl
          rw [hll] at ho
          generalize e.on = j at ho
          cases ho
          skip
        have hm : 4 ∈ Region.ready .any opsB listed := mem_ready.2 ⟨true_of listed 4 (by omega) hc, _, rfl, fun e he _ => ha e he⟩
        rw [hr] at hm
        cases hm
    have l5 : listed.getD 5 false = true := by
      cases hc : listed.getD 5 false with
      | true => rfl
      | false =>
        have ha : ∀ e ∈ opsB[5].after, listed.getD e.on false = true := by
          intro e he
          have ho : e.on ∈ opsB[5].after.toList.map (·.on) := List.mem_map.2 ⟨e, Array.mem_toList_iff.2 he, rfl⟩
          have hll : opsB[5].after.toList.map (·.on) = [4] := rfl
          rw [hll] at ho
          generalize e.on = j at ho
          simp at ho
          subst ho; assumption
        have hm : 5 ∈ Region.ready .any opsB listed := mem_ready.2 ⟨true_of listed 5 (by omega) hc, _, rfl, fun e he _ => ha e he⟩
        rw [hr] at hm
        cases hm
    have l6 : listed.getD 6 false = true := by
      cases hc : listed.getD 6 false with
      | true => rfl
      | false =>
        have ha : ∀ e ∈ opsB[6].after, listed.getD e.on false = true := by
          intro e he
          have ho : e.on ∈ opsB[6].after.toList.map (·.on) := List.mem_map.2 ⟨e, Array.mem_toList_iff.2 he, rfl⟩
          have hll : opsB[6].after.toList.map (·.on) = [] := rfl
          rw [hll] at ho
          generalize e.on = j at ho
          cases ho
          skip
        have hm : 6 ∈ Region.ready .any opsB listed := mem_ready.2 ⟨true_of listed 6 (by omega) hc, _, rfl, fun e he _ => ha e he⟩
        rw [hr] at hm
        cases hm
    have l7 : listed.getD 7 false = true := by
      cases hc : listed.getD 7 false with
      | true => rfl
      | false =>
        have ha : ∀ e ∈ opsB[7].after, listed.getD e.on false = true := by
          intro e he
          have ho : e.on ∈ opsB[7].after.toList.map (·.on) := List.mem_map.2 ⟨e, Array.mem_toList_iff.2 he, rfl⟩
          have hll : opsB[7].after.toList.map (·.on) = [6] := rfl
          rw [hll] at ho
          generalize e.on = j at ho
          simp at ho
          subst ho; assumption
        have hm : 7 ∈ Region.ready .any opsB listed := mem_ready.2 ⟨true_of listed 7 (by omega) hc, _, rfl, fun e he _ => ha e he⟩
        rw [hr] at hm
        cases hm
    have l8 : listed.getD 8 false = true := by
      cases hc : listed.getD 8 false with
      | true => rfl
      | false =>
        have ha : ∀ e ∈ opsB[8].after, listed.getD e.on false = true := by
          intro e he
          have ho : e.on ∈ opsB[8].after.toList.map (·.on) := List.mem_map.2 ⟨e, Array.mem_toList_iff.2 he, rfl⟩
          have hll : opsB[8].after.toList.map (·.on) = [7] := rfl
          rw [hll] at ho
          generalize e.on = j at ho
          simp at ho
          subst ho; assumption
        have hm : 8 ∈ Region.ready .any opsB listed := mem_ready.2 ⟨true_of listed 8 (by omega) hc, _, rfl, fun e he _ => ha e he⟩
        rw [hr] at hm
        cases hm
    have l9 : listed.getD 9 false = true := by
      cases hc : listed.getD 9 false with
      | true => rfl
      | false =>
        have ha : ∀ e ∈ opsB[9].after, listed.getD e.on false = true := by
          intro e he
          have ho : e.on ∈ opsB[9].after.toList.map (·.on) := List.mem_map.2 ⟨e, Array.mem_toList_iff.2 he, rfl⟩
          have hll : opsB[9].after.toList.map (·.on) = [8] := rfl
          rw [hll] at ho
          generalize e.on = j at ho
          simp at ho
          subst ho; assumption
        have hm : 9 ∈ Region.ready .any opsB listed := mem_ready.2 ⟨true_of listed 9 (by omega) hc, _, rfl, fun e he _ => ha e he⟩
        rw [hr] at hm
        cases hm
    have l10 : listed.getD 10 false = true := by
      cases hc : listed.getD 10 false with
      | true => rfl
      | false =>
        have ha : ∀ e ∈ opsB[10].after, listed.getD e.on false = true := by
          intro e he
          have ho : e.on ∈ opsB[10].after.toList.map (·.on) := List.mem_map.2 ⟨e, Array.mem_toList_iff.2 he, rfl⟩
          have hll : opsB[10].after.toList.map (·.on) = [] := rfl
          rw [hll] at ho
          generalize e.on = j at ho
          cases ho
          skip
        have hm : 10 ∈ Region.ready .any opsB listed := mem_ready.2 ⟨true_of listed 10 (by omega) hc, _, rfl, fun e he _ => ha e he⟩
        rw [hr] at hm
        cases hm
    have l11 : listed.getD 11 false = true := by
      cases hc : listed.getD 11 false with
      | true => rfl
      | false =>
        have ha : ∀ e ∈ opsB[11].after, listed.getD e.on false = true := by
          intro e he
          have ho : e.on ∈ opsB[11].after.toList.map (·.on) := List.mem_map.2 ⟨e, Array.mem_toList_iff.2 he, rfl⟩
          have hll : opsB[11].after.toList.map (·.on) = [10] := rfl
          rw [hll] at ho
          generalize e.on = j at ho
          simp at ho
          subst ho; assumption
        have hm : 11 ∈ Region.ready .any opsB listed := mem_ready.2 ⟨true_of listed 11 (by omega) hc, _, rfl, fun e he _ => ha e he⟩
        rw [hr] at hm
        cases hm
    have l12 : listed.getD 12 false = true := by
      cases hc : listed.getD 12 false with
      | true => rfl
      | false =>
        have ha : ∀ e ∈ opsB[12].after, listed.getD e.on false = true := by
          intro e he
          have ho : e.on ∈ opsB[12].after.toList.map (·.on) := List.mem_map.2 ⟨e, Array.mem_toList_iff.2 he, rfl⟩
          have hll : opsB[12].after.toList.map (·.on) = [9, 11] := rfl
          rw [hll] at ho
          generalize e.on = j at ho
          simp at ho
          rcases ho with rfl | rfl <;> assumption
        have hm : 12 ∈ Region.ready .any opsB listed := mem_ready.2 ⟨true_of listed 12 (by omega) hc, _, rfl, fun e he _ => ha e he⟩
        rw [hr] at hm
        cases hm
    have l13 : listed.getD 13 false = true := by
      cases hc : listed.getD 13 false with
      | true => rfl
      | false =>
        have ha : ∀ e ∈ opsB[13].after, listed.getD e.on false = true := by
          intro e he
          have ho : e.on ∈ opsB[13].after.toList.map (·.on) := List.mem_map.2 ⟨e, Array.mem_toList_iff.2 he, rfl⟩
          have hll : opsB[13].after.toList.map (·.on) = [12] := rfl
          rw [hll] at ho
          generalize e.on = j at ho
          simp at ho
          subst ho; assumption
        have hm : 13 ∈ Region.ready .any opsB listed := mem_ready.2 ⟨true_of listed 13 (by omega) hc, _, rfl, fun e he _ => ha e he⟩
        rw [hr] at hm
        cases hm
    have l14 : listed.getD 14 false = true := by
      cases hc : listed.getD 14 false with
      | true => rfl
      | false =>
        have ha : ∀ e ∈ opsB[14].after, listed.getD e.on false = true := by
          intro e he
          have ho : e.on ∈ opsB[14].after.toList.map (·.on) := List.mem_map.2 ⟨e, Array.mem_toList_iff.2 he, rfl⟩
          have hll : opsB[14].after.toList.map (·.on) = [] := rfl
          rw [hll] at ho
          generalize e.on = j at ho
          cases ho
          skip
        have hm : 14 ∈ Region.ready .any opsB listed := mem_ready.2 ⟨true_of listed 14 (by omega) hc, _, rfl, fun e he _ => ha e he⟩
        rw [hr] at hm
        cases hm
    have l15 : listed.getD 15 false = true := by
      cases hc : listed.getD 15 false with
      | true => rfl
      | false =>
        have ha : ∀ e ∈ opsB[15].after, listed.getD e.on false = true := by
          intro e he
          have ho : e.on ∈ opsB[15].after.toList.map (·.on) := List.mem_map.2 ⟨e, Array.mem_toList_iff.2 he, rfl⟩
          have hll : opsB[15].after.toList.map (·.on) = [14] := rfl
          rw [hll] at ho
          generalize e.on = j at ho
          simp at ho
          subst ho; assumption
        have hm : 15 ∈ Region.ready .any opsB listed := mem_ready.2 ⟨true_of listed 15 (by omega) hc, _, rfl, fun e he _ => ha e he⟩
        rw [hr] at hm
        cases hm
    have l16 : listed.getD 16 false = true := by
      cases hc : listed.getD 16 false with
      | true => rfl
      | false =>
        have ha : ∀ e ∈ opsB[16].after, listed.getD e.on false = true := by
          intro e he
          have ho : e.on ∈ opsB[16].after.toList.map (·.on) := List.mem_map.2 ⟨e, Array.mem_toList_iff.2 he, rfl⟩
          have hll : opsB[16].after.toList.map (·.on) = [13, 15] := rfl
          rw [hll] at ho
          generalize e.on = j at ho
          simp at ho
          rcases ho with rfl | rfl <;> assumption
        have hm : 16 ∈ Region.ready .any opsB listed := mem_ready.2 ⟨true_of listed 16 (by omega) hc, _, rfl, fun e he _ => ha e he⟩
        rw [hr] at hm
        cases hm
    have l17 : listed.getD 17 false = true := by
      cases hc : listed.getD 17 false with
      | true => rfl
      | false =>
        have ha : ∀ e ∈ opsB[17].after, listed.getD e.on false = true := by
          intro e he
          have ho : e.on ∈ opsB[17].after.toList.map (·.on) := List.mem_map.2 ⟨e, Array.mem_toList_iff.2 he, rfl⟩
          have hll : opsB[17].after.toList.map (·.on) = [3, 5, 0, 1, 2, 3, 4, 5, 6, 7, 8, 9, 10, 11, 12, 13, 14, 15, 16] := rfl
          rw [hll] at ho
          generalize e.on = j at ho
          simp at ho
          rcases ho with rfl | rfl | rfl | rfl | rfl | rfl | rfl | rfl | rfl | rfl | rfl | rfl | rfl | rfl | rfl | rfl | rfl | rfl | rfl <;> assumption
        have hm : 17 ∈ Region.ready .any opsB listed := mem_ready.2 ⟨true_of listed 17 (by omega) hc, _, rfl, fun e he _ => ha e he⟩
        rw [hr] at hm
        cases hm
    have l18 : listed.getD 18 false = true := by
      cases hc : listed.getD 18 false with
      | true => rfl
      | false =>
        have ha : ∀ e ∈ opsB[18].after, listed.getD e.on false = true := by
          intro e he
          have ho : e.on ∈ opsB[18].after.toList.map (·.on) := List.mem_map.2 ⟨e, Array.mem_toList_iff.2 he, rfl⟩
          have hll : opsB[18].after.toList.map (·.on) = [17, 16, 16, 0, 1, 2, 3, 4, 5, 6, 7, 8, 9, 10, 11, 12, 13, 14, 15, 16] := rfl
          rw [hll] at ho
          generalize e.on = j at ho
          simp at ho
          rcases ho with rfl | rfl | rfl | rfl | rfl | rfl | rfl | rfl | rfl | rfl | rfl | rfl | rfl | rfl | rfl | rfl | rfl | rfl | rfl | rfl <;> assumption
        have hm : 18 ∈ Region.ready .any opsB listed := mem_ready.2 ⟨true_of listed 18 (by omega) hc, _, rfl, fun e he _ => ha e he⟩
        rw [hr] at hm
        cases hm
    obtain ⟨s, hs, hfd, he, hM⟩ := h
    obtain ⟨g, cap, w3, b1, b2, b3, b4, b5, b6, -, b8⟩ := hM.e2 l16
    have hq := hQ g cap w3 s b1 ((Below.refl B w1).drew.trans b2) b3 b4 b5
    have hb : a = (((((((((((((((((a0.put (some 69) (s 69)).put (some 70) (s 70)).put (some 71) (s 71)).put (some 72) (s 72)).put (some 73) (s 73)).put (some 74) (s 74)).put (some 75) (s 75)).put (some 76) (s 76)).put (some 77) (s 77)).put (some 78) (s 78)).put (some 79) (s 79)).put (some 80) (s 80)).put (some 81) (s 81)).put (some 82) (s 82)).put (some 83) (s 83)).put (some 84) (s 84)).put (some 85) (s 85)).put (some 86) (s 86) := by
      refine act_ext _ _ (by simp only [TMake.size_put]; exact hs) (by simp only [TMake.defers_put]; exact hfd) fun k => ?_
      rw [he]
      simp only [getD_putB, TMake.size_put, hsz, Nat.reduceLT]
      by_cases hk2 : 69 ≤ k ∧ k ≤ 86
      · have hc : k = 69 ∨ k = 70 ∨ k = 71 ∨ k = 72 ∨ k = 73 ∨ k = 74 ∨ k = 75 ∨ k = 76 ∨ k = 77 ∨ k = 78 ∨ k = 79 ∨ k = 80 ∨ k = 81 ∨ k = 82 ∨ k = 83 ∨ k = 84 ∨ k = 85 ∨ k = 86 := by omega
        rcases hc with rfl | rfl | rfl | rfl | rfl | rfl | rfl | rfl | rfl | rfl | rfl | rfl | rfl | rfl | rfl | rfl | rfl | rfl <;> simp
      · rw [hM.rest k hk2]
        iterate 18 rw [if_neg (by omega)]
    rw [hb, b8 l18]
    exact hq
  · refine ⟨fun k => a0.tmps.getD k undef, rfl, rfl, fun _ => rfl, ?_⟩
    have hno : ∀ j, (Array.replicate opsB.size false).getD j false = false := fun j => by
      simp only [Array.getD_eq_getD_getElem?, Array.getElem?_replicate]
      split <;> rfl
    have hn : ∀ {p : Prop} (j : Nat), (Array.replicate opsB.size false).getD j false = true → p := fun j h => by rw [hno j] at h; cases h
    exact ⟨fun _ _ => rfl, fun h => hn _ h, fun h => hn _ h, fun h => hn _ h, fun h => hn _ h, fun h => hn _ h, fun h => hn _ h, fun h => hn _ h, fun h => hn _ h, fun h => hn _ h, fun h => hn _ h, fun h => hn _ h, fun h => hn _ h, fun h => hn _ h, fun h => hn _ h, fun h => hn _ h, fun h => hn _ h, fun h => hn _ h, fun _ _ => rfl, fun _ h => hn _ h, fun h => hn _ h, fun h => hn _ h, fun h => hn _ h, fun h => hn _ h, fun _ => ⟨cS, cP, cI, fI⟩⟩
end Go.Proofs.Ytlnbkljajocfoaa.TApp
