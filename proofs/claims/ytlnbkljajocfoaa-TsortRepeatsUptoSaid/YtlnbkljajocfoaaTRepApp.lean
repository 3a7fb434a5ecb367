/- The law's statement that appends two pairs, in whatever order its loads come: what it leaves. -/
import Derived.Test.YtlnbkljajocfoaaTMake
import Derived.Test.YtlnbkljajocfoaaTParse
import Derived.Deep.AppendLies
namespace Go.Proofs.Ytlnbkljajocfoaa.TRepApp
open Go Go.RowKit Strs TWords TPairs TParse TMake

def opsR : Array Oper := #[
  { dst := some 30, op := Op.move (Operand.tmp 7), type := 22, pos := "law.go:122", after := #[], guard := none },
  { dst := some 31, op := Op.move (Operand.tmp 0), type := 22, pos := "law.go:122", after := #[], guard := none },
  { dst := some 32, op := Op.move (Operand.tmp 8), type := 3, pos := "law.go:122", after := #[], guard := none },
  { dst := some 33, op := Op.indexAddr 22 (Operand.tmp 31) (Operand.tmp 32), type := 0, pos := "law.go:122", after := #[{ on := 1, ground := Ground.data }, { on := 2, ground := Ground.data }], guard := none },
  { dst := some 34, op := Op.load 27 (Operand.tmp 33), type := 27, pos := "law.go:122", after := #[{ on := 3, ground := Ground.data }], guard := none },
  { dst := some 35, op := Op.move (Operand.tmp 0), type := 22, pos := "law.go:122", after := #[], guard := none },
  { dst := some 36, op := Op.move (Operand.tmp 8), type := 3, pos := "law.go:122", after := #[], guard := none },
  { dst := some 37, op := Op.indexAddr 22 (Operand.tmp 35) (Operand.tmp 36), type := 0, pos := "law.go:122", after := #[{ on := 5, ground := Ground.data }, { on := 6, ground := Ground.data }], guard := none },
  { dst := some 38, op := Op.fieldAddr 27 (Operand.tmp 37) 1, type := 0, pos := "law.go:122", after := #[{ on := 7, ground := Ground.data }], guard := none },
  { dst := some 39, op := Op.load 9 (Operand.tmp 38), type := 9, pos := "law.go:122", after := #[{ on := 8, ground := Ground.data }], guard := none },
  { dst := some 40, op := Op.move (Operand.tmp 0), type := 22, pos := "law.go:122", after := #[], guard := none },
  { dst := some 41, op := Op.move (Operand.tmp 8), type := 3, pos := "law.go:122", after := #[], guard := none },
  { dst := some 42, op := Op.indexAddr 22 (Operand.tmp 40) (Operand.tmp 41), type := 0, pos := "law.go:122", after := #[{ on := 10, ground := Ground.data }, { on := 11, ground := Ground.data }], guard := none },
  { dst := some 43, op := Op.fieldAddr 27 (Operand.tmp 42) 1, type := 0, pos := "law.go:122", after := #[{ on := 12, ground := Ground.data }], guard := none },
  { dst := some 44, op := Op.load 9 (Operand.tmp 43), type := 9, pos := "law.go:122", after := #[{ on := 13, ground := Ground.data }], guard := none },
  { dst := some 45, op := Op.build 27 #[(0, (Operand.tmp 39)), (1, (Operand.tmp 44))], type := 27, pos := "law.go:122", after := #[{ on := 9, ground := Ground.data }, { on := 14, ground := Ground.data }], guard := none },
  { dst := some 46, op := Op.buildSlice 22 2 #[(0, (Operand.tmp 34)), (1, (Operand.tmp 45))], type := 22, pos := "law.go:122", after := #[{ on := 4, ground := Ground.data }, { on := 15, ground := Ground.data }], guard := none },
  { dst := some 47, op := Op.call { callee := Callee.builtin Builtin.append, args := #[(Operand.tmp 30), (Operand.tmp 46)], argTypes := #[22, 22] }, type := 22, pos := "law.go:122", after := #[{ on := 0, ground := Ground.data }, { on := 16, ground := Ground.data }], guard := none },
  { dst := some 7, op := Op.assign (Operand.tmp 47), type := 22, pos := "law.go:122", after := #[{ on := 17, ground := Ground.data }, { on := 17, ground := Ground.chain }, { on := 0, ground := Ground.phase }, { on := 1, ground := Ground.phase }, { on := 2, ground := Ground.phase }, { on := 3, ground := Ground.phase }, { on := 4, ground := Ground.phase }, { on := 5, ground := Ground.phase }, { on := 6, ground := Ground.phase }, { on := 7, ground := Ground.phase }, { on := 8, ground := Ground.phase }, { on := 9, ground := Ground.phase }, { on := 10, ground := Ground.phase }, { on := 11, ground := Ground.phase }, { on := 12, ground := Ground.phase }, { on := 13, ground := Ground.phase }, { on := 14, ground := Ground.phase }, { on := 15, ground := Ground.phase }, { on := 16, ground := Ground.phase }, { on := 17, ground := Ground.phase }], guard := none }]
structure Rp (n c b2 o2 k B vn vc : Nat) (va : Option Addr) (x y : Str) (cp : List Value) (w0 : World) (s0 : Nat → Value) (L : Nat → Bool) (s : Nat → Value) (w : World) : Prop where
  rest : ∀ i, ¬ (30 ≤ i ∧ i ≤ 47) → i ≠ 7 → s i = s0 i
  q0 : L 0 = true → s 30 = (.slice va vn vc)
  q1 : L 1 = true → s 31 = (.slice (some ⟨b2, o2, none⟩) n c)
  q2 : L 2 = true → s 32 = (.int .i64 (k : Nat))
  q3 : L 3 = true → s 33 = (.pointer (some ⟨b2, o2 + k * 2, none⟩))
  q4 : L 4 = true → s 34 = (.agg #[(.string ⟨x.toArray⟩), (.string ⟨y.toArray⟩)])
  q5 : L 5 = true → s 35 = (.slice (some ⟨b2, o2, none⟩) n c)
  q6 : L 6 = true → s 36 = (.int .i64 (k : Nat))
  q7 : L 7 = true → s 37 = (.pointer (some ⟨b2, o2 + k * 2, none⟩))
  q8 : L 8 = true → s 38 = (.pointer (some ⟨b2, o2 + k * 2 + 1, none⟩))
  q9 : L 9 = true → s 39 = (.string ⟨y.toArray⟩)
  q10 : L 10 = true → s 40 = (.slice (some ⟨b2, o2, none⟩) n c)
  q11 : L 11 = true → s 41 = (.int .i64 (k : Nat))
  q12 : L 12 = true → s 42 = (.pointer (some ⟨b2, o2 + k * 2, none⟩))
  q13 : L 13 = true → s 43 = (.pointer (some ⟨b2, o2 + k * 2 + 1, none⟩))
  q14 : L 14 = true → s 44 = (.string ⟨y.toArray⟩)
  q15 : L 15 = true → s 45 = (.agg #[(.string ⟨y.toArray⟩), (.string ⟨y.toArray⟩)])
  q16 : L 16 = true → s 46 = (.slice (some ⟨w0.heap.size, 0, none⟩) 2 2)
  e0 : L 16 = false → w = w0
  e1 : L 17 = false → L 16 = true → w = w0.alloc (.cells #[(.string ⟨x.toArray⟩), (.string ⟨y.toArray⟩), (.string ⟨y.toArray⟩), (.string ⟨y.toArray⟩)] 27)
  e2 : L 17 = true → ∃ g cap w3, w3.ownsRow B 27 2 (.slice (some ⟨g, 0, none⟩) (vn + 2) cap) (vn + 2) (cp ++ [(.string ⟨x.toArray⟩), (.string ⟨y.toArray⟩), (.string ⟨y.toArray⟩), (.string ⟨y.toArray⟩)]) ∧ Below B w0 w3 ∧ s 47 = .slice (some ⟨g, 0, none⟩) (vn + 2) cap ∧ w = w3 ∧ (L 18 = true → s 7 = .slice (some ⟨g, 0, none⟩) (vn + 2) cap)
  p15 : L 15 = true → L 9 = true ∧ L 14 = true
  p16 : L 16 = true → L 4 = true ∧ L 9 = true ∧ L 14 = true
  p17 : L 17 = true → L 0 = true ∧ L 16 = true
  p18 : L 18 = true → L 17 = true
  r7 : L 18 = false → s 7 = s0 7
theorem Rp.step0 {n c b2 o2 k B vn vc : Nat} {va : Option Addr} {x y : Str} {cp : List Value} {w0 : World} {s0 : Nat → Value} {L : Nat → Bool} {s : Nat → Value} {w : World} (h : Rp n c b2 o2 k B vn vc va x y cp w0 s0 L s w) : Rp n c b2 o2 k B vn vc va x y cp w0 s0 (fun i => L i || i == 0) (fun i => if i = 30 then (.slice va vn vc) else s i) w := by
  have hr : ∀ i, ¬ (30 ≤ i ∧ i ≤ 47) → i ≠ 7 → (if i = 30 then (.slice va vn vc) else s i) = s0 i := fun i h1 h2 => by rw [if_neg (by omega)]; exact h.rest i h1 h2
  refine ⟨hr, (fun _ => by simp), (by simpa using h.q1), (by simpa using h.q2), (by simpa using h.q3), (by simpa using h.q4), (by simpa using h.q5), (by simpa using h.q6), (by simpa using h.q7), (by simpa using h.q8), (by simpa using h.q9), (by simpa using h.q10), (by simpa using h.q11), (by simpa using h.q12), (by simpa using h.q13), (by simpa using h.q14), (by simpa using h.q15), (by simpa using h.q16), (by simpa using h.e0), (by simpa using h.e1), (by simpa using h.e2), (by simpa using h.p15), (by simpa using h.p16), (fun hh => by simp [h.p17 (by simpa using hh)]), (by simpa using h.p18), (by simpa using h.r7)⟩
theorem Rp.step1 {n c b2 o2 k B vn vc : Nat} {va : Option Addr} {x y : Str} {cp : List Value} {w0 : World} {s0 : Nat → Value} {L : Nat → Bool} {s : Nat → Value} {w : World} (h : Rp n c b2 o2 k B vn vc va x y cp w0 s0 L s w) : Rp n c b2 o2 k B vn vc va x y cp w0 s0 (fun i => L i || i == 1) (fun i => if i = 31 then (.slice (some ⟨b2, o2, none⟩) n c) else s i) w := by
  have hr : ∀ i, ¬ (30 ≤ i ∧ i ≤ 47) → i ≠ 7 → (if i = 31 then (.slice (some ⟨b2, o2, none⟩) n c) else s i) = s0 i := fun i h1 h2 => by rw [if_neg (by omega)]; exact h.rest i h1 h2
  refine ⟨hr, (by simpa using h.q0), (fun _ => by simp), (by simpa using h.q2), (by simpa using h.q3), (by simpa using h.q4), (by simpa using h.q5), (by simpa using h.q6), (by simpa using h.q7), (by simpa using h.q8), (by simpa using h.q9), (by simpa using h.q10), (by simpa using h.q11), (by simpa using h.q12), (by simpa using h.q13), (by simpa using h.q14), (by simpa using h.q15), (by simpa using h.q16), (by simpa using h.e0), (by simpa using h.e1), (by simpa using h.e2), (by simpa using h.p15), (by simpa using h.p16), (by simpa using h.p17), (by simpa using h.p18), (by simpa using h.r7)⟩
theorem Rp.step2 {n c b2 o2 k B vn vc : Nat} {va : Option Addr} {x y : Str} {cp : List Value} {w0 : World} {s0 : Nat → Value} {L : Nat → Bool} {s : Nat → Value} {w : World} (h : Rp n c b2 o2 k B vn vc va x y cp w0 s0 L s w) : Rp n c b2 o2 k B vn vc va x y cp w0 s0 (fun i => L i || i == 2) (fun i => if i = 32 then (.int .i64 (k : Nat)) else s i) w := by
  have hr : ∀ i, ¬ (30 ≤ i ∧ i ≤ 47) → i ≠ 7 → (if i = 32 then (.int .i64 (k : Nat)) else s i) = s0 i := fun i h1 h2 => by rw [if_neg (by omega)]; exact h.rest i h1 h2
  refine ⟨hr, (by simpa using h.q0), (by simpa using h.q1), (fun _ => by simp), (by simpa using h.q3), (by simpa using h.q4), (by simpa using h.q5), (by simpa using h.q6), (by simpa using h.q7), (by simpa using h.q8), (by simpa using h.q9), (by simpa using h.q10), (by simpa using h.q11), (by simpa using h.q12), (by simpa using h.q13), (by simpa using h.q14), (by simpa using h.q15), (by simpa using h.q16), (by simpa using h.e0), (by simpa using h.e1), (by simpa using h.e2), (by simpa using h.p15), (by simpa using h.p16), (by simpa using h.p17), (by simpa using h.p18), (by simpa using h.r7)⟩
theorem Rp.step3 {n c b2 o2 k B vn vc : Nat} {va : Option Addr} {x y : Str} {cp : List Value} {w0 : World} {s0 : Nat → Value} {L : Nat → Bool} {s : Nat → Value} {w : World} (h : Rp n c b2 o2 k B vn vc va x y cp w0 s0 L s w) : Rp n c b2 o2 k B vn vc va x y cp w0 s0 (fun i => L i || i == 3) (fun i => if i = 33 then (.pointer (some ⟨b2, o2 + k * 2, none⟩)) else s i) w := by
  have hr : ∀ i, ¬ (30 ≤ i ∧ i ≤ 47) → i ≠ 7 → (if i = 33 then (.pointer (some ⟨b2, o2 + k * 2, none⟩)) else s i) = s0 i := fun i h1 h2 => by rw [if_neg (by omega)]; exact h.rest i h1 h2
  refine ⟨hr, (by simpa using h.q0), (by simpa using h.q1), (by simpa using h.q2), (fun _ => by simp), (by simpa using h.q4), (by simpa using h.q5), (by simpa using h.q6), (by simpa using h.q7), (by simpa using h.q8), (by simpa using h.q9), (by simpa using h.q10), (by simpa using h.q11), (by simpa using h.q12), (by simpa using h.q13), (by simpa using h.q14), (by simpa using h.q15), (by simpa using h.q16), (by simpa using h.e0), (by simpa using h.e1), (by simpa using h.e2), (by simpa using h.p15), (by simpa using h.p16), (by simpa using h.p17), (by simpa using h.p18), (by simpa using h.r7)⟩
theorem Rp.step4 {n c b2 o2 k B vn vc : Nat} {va : Option Addr} {x y : Str} {cp : List Value} {w0 : World} {s0 : Nat → Value} {L : Nat → Bool} {s : Nat → Value} {w : World} (h : Rp n c b2 o2 k B vn vc va x y cp w0 s0 L s w) : Rp n c b2 o2 k B vn vc va x y cp w0 s0 (fun i => L i || i == 4) (fun i => if i = 34 then (.agg #[(.string ⟨x.toArray⟩), (.string ⟨y.toArray⟩)]) else s i) w := by
  have hr : ∀ i, ¬ (30 ≤ i ∧ i ≤ 47) → i ≠ 7 → (if i = 34 then (.agg #[(.string ⟨x.toArray⟩), (.string ⟨y.toArray⟩)]) else s i) = s0 i := fun i h1 h2 => by rw [if_neg (by omega)]; exact h.rest i h1 h2
  refine ⟨hr, (by simpa using h.q0), (by simpa using h.q1), (by simpa using h.q2), (by simpa using h.q3), (fun _ => by simp), (by simpa using h.q5), (by simpa using h.q6), (by simpa using h.q7), (by simpa using h.q8), (by simpa using h.q9), (by simpa using h.q10), (by simpa using h.q11), (by simpa using h.q12), (by simpa using h.q13), (by simpa using h.q14), (by simpa using h.q15), (by simpa using h.q16), (by simpa using h.e0), (by simpa using h.e1), (by simpa using h.e2), (by simpa using h.p15), (fun hh => by simp [h.p16 (by simpa using hh)]), (by simpa using h.p17), (by simpa using h.p18), (by simpa using h.r7)⟩
theorem Rp.step5 {n c b2 o2 k B vn vc : Nat} {va : Option Addr} {x y : Str} {cp : List Value} {w0 : World} {s0 : Nat → Value} {L : Nat → Bool} {s : Nat → Value} {w : World} (h : Rp n c b2 o2 k B vn vc va x y cp w0 s0 L s w) : Rp n c b2 o2 k B vn vc va x y cp w0 s0 (fun i => L i || i == 5) (fun i => if i = 35 then (.slice (some ⟨b2, o2, none⟩) n c) else s i) w := by
  have hr : ∀ i, ¬ (30 ≤ i ∧ i ≤ 47) → i ≠ 7 → (if i = 35 then (.slice (some ⟨b2, o2, none⟩) n c) else s i) = s0 i := fun i h1 h2 => by rw [if_neg (by omega)]; exact h.rest i h1 h2
  refine ⟨hr, (by simpa using h.q0), (by simpa using h.q1), (by simpa using h.q2), (by simpa using h.q3), (by simpa using h.q4), (fun _ => by simp), (by simpa using h.q6), (by simpa using h.q7), (by simpa using h.q8), (by simpa using h.q9), (by simpa using h.q10), (by simpa using h.q11), (by simpa using h.q12), (by simpa using h.q13), (by simpa using h.q14), (by simpa using h.q15), (by simpa using h.q16), (by simpa using h.e0), (by simpa using h.e1), (by simpa using h.e2), (by simpa using h.p15), (by simpa using h.p16), (by simpa using h.p17), (by simpa using h.p18), (by simpa using h.r7)⟩
theorem Rp.step6 {n c b2 o2 k B vn vc : Nat} {va : Option Addr} {x y : Str} {cp : List Value} {w0 : World} {s0 : Nat → Value} {L : Nat → Bool} {s : Nat → Value} {w : World} (h : Rp n c b2 o2 k B vn vc va x y cp w0 s0 L s w) : Rp n c b2 o2 k B vn vc va x y cp w0 s0 (fun i => L i || i == 6) (fun i => if i = 36 then (.int .i64 (k : Nat)) else s i) w := by
  have hr : ∀ i, ¬ (30 ≤ i ∧ i ≤ 47) → i ≠ 7 → (if i = 36 then (.int .i64 (k : Nat)) else s i) = s0 i := fun i h1 h2 => by rw [if_neg (by omega)]; exact h.rest i h1 h2
  refine ⟨hr, (by simpa using h.q0), (by simpa using h.q1), (by simpa using h.q2), (by simpa using h.q3), (by simpa using h.q4), (by simpa using h.q5), (fun _ => by simp), (by simpa using h.q7), (by simpa using h.q8), (by simpa using h.q9), (by simpa using h.q10), (by simpa using h.q11), (by simpa using h.q12), (by simpa using h.q13), (by simpa using h.q14), (by simpa using h.q15), (by simpa using h.q16), (by simpa using h.e0), (by simpa using h.e1), (by simpa using h.e2), (by simpa using h.p15), (by simpa using h.p16), (by simpa using h.p17), (by simpa using h.p18), (by simpa using h.r7)⟩
theorem Rp.step7 {n c b2 o2 k B vn vc : Nat} {va : Option Addr} {x y : Str} {cp : List Value} {w0 : World} {s0 : Nat → Value} {L : Nat → Bool} {s : Nat → Value} {w : World} (h : Rp n c b2 o2 k B vn vc va x y cp w0 s0 L s w) : Rp n c b2 o2 k B vn vc va x y cp w0 s0 (fun i => L i || i == 7) (fun i => if i = 37 then (.pointer (some ⟨b2, o2 + k * 2, none⟩)) else s i) w := by
  have hr : ∀ i, ¬ (30 ≤ i ∧ i ≤ 47) → i ≠ 7 → (if i = 37 then (.pointer (some ⟨b2, o2 + k * 2, none⟩)) else s i) = s0 i := fun i h1 h2 => by rw [if_neg (by omega)]; exact h.rest i h1 h2
  refine ⟨hr, (by simpa using h.q0), (by simpa using h.q1), (by simpa using h.q2), (by simpa using h.q3), (by simpa using h.q4), (by simpa using h.q5), (by simpa using h.q6), (fun _ => by simp), (by simpa using h.q8), (by simpa using h.q9), (by simpa using h.q10), (by simpa using h.q11), (by simpa using h.q12), (by simpa using h.q13), (by simpa using h.q14), (by simpa using h.q15), (by simpa using h.q16), (by simpa using h.e0), (by simpa using h.e1), (by simpa using h.e2), (by simpa using h.p15), (by simpa using h.p16), (by simpa using h.p17), (by simpa using h.p18), (by simpa using h.r7)⟩
theorem Rp.step8 {n c b2 o2 k B vn vc : Nat} {va : Option Addr} {x y : Str} {cp : List Value} {w0 : World} {s0 : Nat → Value} {L : Nat → Bool} {s : Nat → Value} {w : World} (h : Rp n c b2 o2 k B vn vc va x y cp w0 s0 L s w) : Rp n c b2 o2 k B vn vc va x y cp w0 s0 (fun i => L i || i == 8) (fun i => if i = 38 then (.pointer (some ⟨b2, o2 + k * 2 + 1, none⟩)) else s i) w := by
  have hr : ∀ i, ¬ (30 ≤ i ∧ i ≤ 47) → i ≠ 7 → (if i = 38 then (.pointer (some ⟨b2, o2 + k * 2 + 1, none⟩)) else s i) = s0 i := fun i h1 h2 => by rw [if_neg (by omega)]; exact h.rest i h1 h2
  refine ⟨hr, (by simpa using h.q0), (by simpa using h.q1), (by simpa using h.q2), (by simpa using h.q3), (by simpa using h.q4), (by simpa using h.q5), (by simpa using h.q6), (by simpa using h.q7), (fun _ => by simp), (by simpa using h.q9), (by simpa using h.q10), (by simpa using h.q11), (by simpa using h.q12), (by simpa using h.q13), (by simpa using h.q14), (by simpa using h.q15), (by simpa using h.q16), (by simpa using h.e0), (by simpa using h.e1), (by simpa using h.e2), (by simpa using h.p15), (by simpa using h.p16), (by simpa using h.p17), (by simpa using h.p18), (by simpa using h.r7)⟩
theorem Rp.step9 {n c b2 o2 k B vn vc : Nat} {va : Option Addr} {x y : Str} {cp : List Value} {w0 : World} {s0 : Nat → Value} {L : Nat → Bool} {s : Nat → Value} {w : World} (h : Rp n c b2 o2 k B vn vc va x y cp w0 s0 L s w) : Rp n c b2 o2 k B vn vc va x y cp w0 s0 (fun i => L i || i == 9) (fun i => if i = 39 then (.string ⟨y.toArray⟩) else s i) w := by
  have hr : ∀ i, ¬ (30 ≤ i ∧ i ≤ 47) → i ≠ 7 → (if i = 39 then (.string ⟨y.toArray⟩) else s i) = s0 i := fun i h1 h2 => by rw [if_neg (by omega)]; exact h.rest i h1 h2
  refine ⟨hr, (by simpa using h.q0), (by simpa using h.q1), (by simpa using h.q2), (by simpa using h.q3), (by simpa using h.q4), (by simpa using h.q5), (by simpa using h.q6), (by simpa using h.q7), (by simpa using h.q8), (fun _ => by simp), (by simpa using h.q10), (by simpa using h.q11), (by simpa using h.q12), (by simpa using h.q13), (by simpa using h.q14), (by simpa using h.q15), (by simpa using h.q16), (by simpa using h.e0), (by simpa using h.e1), (by simpa using h.e2), (fun hh => by simp [h.p15 (by simpa using hh)]), (fun hh => by simp [h.p16 (by simpa using hh)]), (by simpa using h.p17), (by simpa using h.p18), (by simpa using h.r7)⟩
theorem Rp.step10 {n c b2 o2 k B vn vc : Nat} {va : Option Addr} {x y : Str} {cp : List Value} {w0 : World} {s0 : Nat → Value} {L : Nat → Bool} {s : Nat → Value} {w : World} (h : Rp n c b2 o2 k B vn vc va x y cp w0 s0 L s w) : Rp n c b2 o2 k B vn vc va x y cp w0 s0 (fun i => L i || i == 10) (fun i => if i = 40 then (.slice (some ⟨b2, o2, none⟩) n c) else s i) w := by
  have hr : ∀ i, ¬ (30 ≤ i ∧ i ≤ 47) → i ≠ 7 → (if i = 40 then (.slice (some ⟨b2, o2, none⟩) n c) else s i) = s0 i := fun i h1 h2 => by rw [if_neg (by omega)]; exact h.rest i h1 h2
  refine ⟨hr, (by simpa using h.q0), (by simpa using h.q1), (by simpa using h.q2), (by simpa using h.q3), (by simpa using h.q4), (by simpa using h.q5), (by simpa using h.q6), (by simpa using h.q7), (by simpa using h.q8), (by simpa using h.q9), (fun _ => by simp), (by simpa using h.q11), (by simpa using h.q12), (by simpa using h.q13), (by simpa using h.q14), (by simpa using h.q15), (by simpa using h.q16), (by simpa using h.e0), (by simpa using h.e1), (by simpa using h.e2), (by simpa using h.p15), (by simpa using h.p16), (by simpa using h.p17), (by simpa using h.p18), (by simpa using h.r7)⟩
theorem Rp.step11 {n c b2 o2 k B vn vc : Nat} {va : Option Addr} {x y : Str} {cp : List Value} {w0 : World} {s0 : Nat → Value} {L : Nat → Bool} {s : Nat → Value} {w : World} (h : Rp n c b2 o2 k B vn vc va x y cp w0 s0 L s w) : Rp n c b2 o2 k B vn vc va x y cp w0 s0 (fun i => L i || i == 11) (fun i => if i = 41 then (.int .i64 (k : Nat)) else s i) w := by
  have hr : ∀ i, ¬ (30 ≤ i ∧ i ≤ 47) → i ≠ 7 → (if i = 41 then (.int .i64 (k : Nat)) else s i) = s0 i := fun i h1 h2 => by rw [if_neg (by omega)]; exact h.rest i h1 h2
  refine ⟨hr, (by simpa using h.q0), (by simpa using h.q1), (by simpa using h.q2), (by simpa using h.q3), (by simpa using h.q4), (by simpa using h.q5), (by simpa using h.q6), (by simpa using h.q7), (by simpa using h.q8), (by simpa using h.q9), (by simpa using h.q10), (fun _ => by simp), (by simpa using h.q12), (by simpa using h.q13), (by simpa using h.q14), (by simpa using h.q15), (by simpa using h.q16), (by simpa using h.e0), (by simpa using h.e1), (by simpa using h.e2), (by simpa using h.p15), (by simpa using h.p16), (by simpa using h.p17), (by simpa using h.p18), (by simpa using h.r7)⟩
theorem Rp.step12 {n c b2 o2 k B vn vc : Nat} {va : Option Addr} {x y : Str} {cp : List Value} {w0 : World} {s0 : Nat → Value} {L : Nat → Bool} {s : Nat → Value} {w : World} (h : Rp n c b2 o2 k B vn vc va x y cp w0 s0 L s w) : Rp n c b2 o2 k B vn vc va x y cp w0 s0 (fun i => L i || i == 12) (fun i => if i = 42 then (.pointer (some ⟨b2, o2 + k * 2, none⟩)) else s i) w := by
  have hr : ∀ i, ¬ (30 ≤ i ∧ i ≤ 47) → i ≠ 7 → (if i = 42 then (.pointer (some ⟨b2, o2 + k * 2, none⟩)) else s i) = s0 i := fun i h1 h2 => by rw [if_neg (by omega)]; exact h.rest i h1 h2
  refine ⟨hr, (by simpa using h.q0), (by simpa using h.q1), (by simpa using h.q2), (by simpa using h.q3), (by simpa using h.q4), (by simpa using h.q5), (by simpa using h.q6), (by simpa using h.q7), (by simpa using h.q8), (by simpa using h.q9), (by simpa using h.q10), (by simpa using h.q11), (fun _ => by simp), (by simpa using h.q13), (by simpa using h.q14), (by simpa using h.q15), (by simpa using h.q16), (by simpa using h.e0), (by simpa using h.e1), (by simpa using h.e2), (by simpa using h.p15), (by simpa using h.p16), (by simpa using h.p17), (by simpa using h.p18), (by simpa using h.r7)⟩
theorem Rp.step13 {n c b2 o2 k B vn vc : Nat} {va : Option Addr} {x y : Str} {cp : List Value} {w0 : World} {s0 : Nat → Value} {L : Nat → Bool} {s : Nat → Value} {w : World} (h : Rp n c b2 o2 k B vn vc va x y cp w0 s0 L s w) : Rp n c b2 o2 k B vn vc va x y cp w0 s0 (fun i => L i || i == 13) (fun i => if i = 43 then (.pointer (some ⟨b2, o2 + k * 2 + 1, none⟩)) else s i) w := by
  have hr : ∀ i, ¬ (30 ≤ i ∧ i ≤ 47) → i ≠ 7 → (if i = 43 then (.pointer (some ⟨b2, o2 + k * 2 + 1, none⟩)) else s i) = s0 i := fun i h1 h2 => by rw [if_neg (by omega)]; exact h.rest i h1 h2
  refine ⟨hr, (by simpa using h.q0), (by simpa using h.q1), (by simpa using h.q2), (by simpa using h.q3), (by simpa using h.q4), (by simpa using h.q5), (by simpa using h.q6), (by simpa using h.q7), (by simpa using h.q8), (by simpa using h.q9), (by simpa using h.q10), (by simpa using h.q11), (by simpa using h.q12), (fun _ => by simp), (by simpa using h.q14), (by simpa using h.q15), (by simpa using h.q16), (by simpa using h.e0), (by simpa using h.e1), (by simpa using h.e2), (by simpa using h.p15), (by simpa using h.p16), (by simpa using h.p17), (by simpa using h.p18), (by simpa using h.r7)⟩
theorem Rp.step14 {n c b2 o2 k B vn vc : Nat} {va : Option Addr} {x y : Str} {cp : List Value} {w0 : World} {s0 : Nat → Value} {L : Nat → Bool} {s : Nat → Value} {w : World} (h : Rp n c b2 o2 k B vn vc va x y cp w0 s0 L s w) : Rp n c b2 o2 k B vn vc va x y cp w0 s0 (fun i => L i || i == 14) (fun i => if i = 44 then (.string ⟨y.toArray⟩) else s i) w := by
  have hr : ∀ i, ¬ (30 ≤ i ∧ i ≤ 47) → i ≠ 7 → (if i = 44 then (.string ⟨y.toArray⟩) else s i) = s0 i := fun i h1 h2 => by rw [if_neg (by omega)]; exact h.rest i h1 h2
  refine ⟨hr, (by simpa using h.q0), (by simpa using h.q1), (by simpa using h.q2), (by simpa using h.q3), (by simpa using h.q4), (by simpa using h.q5), (by simpa using h.q6), (by simpa using h.q7), (by simpa using h.q8), (by simpa using h.q9), (by simpa using h.q10), (by simpa using h.q11), (by simpa using h.q12), (by simpa using h.q13), (fun _ => by simp), (by simpa using h.q15), (by simpa using h.q16), (by simpa using h.e0), (by simpa using h.e1), (by simpa using h.e2), (fun hh => by simp [h.p15 (by simpa using hh)]), (fun hh => by simp [h.p16 (by simpa using hh)]), (by simpa using h.p17), (by simpa using h.p18), (by simpa using h.r7)⟩
theorem Rp.step15 {n c b2 o2 k B vn vc : Nat} {va : Option Addr} {x y : Str} {cp : List Value} {w0 : World} {s0 : Nat → Value} {L : Nat → Bool} {s : Nat → Value} {w : World} (h : Rp n c b2 o2 k B vn vc va x y cp w0 s0 L s w) (hd : L 9 = true ∧ L 14 = true) : Rp n c b2 o2 k B vn vc va x y cp w0 s0 (fun i => L i || i == 15) (fun i => if i = 45 then (.agg #[(.string ⟨y.toArray⟩), (.string ⟨y.toArray⟩)]) else s i) w := by
  have hr : ∀ i, ¬ (30 ≤ i ∧ i ≤ 47) → i ≠ 7 → (if i = 45 then (.agg #[(.string ⟨y.toArray⟩), (.string ⟨y.toArray⟩)]) else s i) = s0 i := fun i h1 h2 => by rw [if_neg (by omega)]; exact h.rest i h1 h2
  refine ⟨hr, (by simpa using h.q0), (by simpa using h.q1), (by simpa using h.q2), (by simpa using h.q3), (by simpa using h.q4), (by simpa using h.q5), (by simpa using h.q6), (by simpa using h.q7), (by simpa using h.q8), (by simpa using h.q9), (by simpa using h.q10), (by simpa using h.q11), (by simpa using h.q12), (by simpa using h.q13), (by simpa using h.q14), (fun _ => by simp), (by simpa using h.q16), (by simpa using h.e0), (by simpa using h.e1), (by simpa using h.e2), (fun _ => by simpa using hd), (by simpa using h.p16), (by simpa using h.p17), (by simpa using h.p18), (by simpa using h.r7)⟩
theorem Rp.step16 {n c b2 o2 k B vn vc : Nat} {va : Option Addr} {x y : Str} {cp : List Value} {w0 : World} {s0 : Nat → Value} {L : Nat → Bool} {s : Nat → Value} {w : World} (h : Rp n c b2 o2 k B vn vc va x y cp w0 s0 L s w) (hi : L 16 = false) (d4 : L 4 = true) (d15 : L 15 = true) : Rp n c b2 o2 k B vn vc va x y cp w0 s0 (fun i => L i || i == 16) (fun i => if i = 46 then (.slice (some ⟨w0.heap.size, 0, none⟩) 2 2) else s i) (w.alloc (.cells #[(.string ⟨x.toArray⟩), (.string ⟨y.toArray⟩), (.string ⟨y.toArray⟩), (.string ⟨y.toArray⟩)] 27)) := by
  have hr : ∀ i, ¬ (30 ≤ i ∧ i ≤ 47) → i ≠ 7 → (if i = 46 then (.slice (some ⟨w0.heap.size, 0, none⟩) 2 2) else s i) = s0 i := fun i h1 h2 => by rw [if_neg (by omega)]; exact h.rest i h1 h2
  refine ⟨hr, (by simpa using h.q0), (by simpa using h.q1), (by simpa using h.q2), (by simpa using h.q3), (by simpa using h.q4), (by simpa using h.q5), (by simpa using h.q6), (by simpa using h.q7), (by simpa using h.q8), (by simpa using h.q9), (by simpa using h.q10), (by simpa using h.q11), (by simpa using h.q12), (by simpa using h.q13), (by simpa using h.q14), (by simpa using h.q15), (fun _ => by simp), (fun hh => by simp at hh), (fun _ _ => by rw [h.e0 hi]), (fun h17 => by
    have := (h.p17 (by simpa using h17)).2
    rw [hi] at this
    cases this), (by simpa using h.p15), (fun _ => by simpa using ⟨d4, h.p15 d15⟩), (fun h17 => by
    have := (h.p17 (by simpa using h17)).2
    rw [hi] at this
    cases this), (by simpa using h.p18), (by simpa using h.r7)⟩
theorem Rp.step17 {n c b2 o2 k B vn vc : Nat} {va : Option Addr} {x y : Str} {cp : List Value} {w0 : World} {s0 : Nat → Value} {L : Nat → Bool} {s : Nat → Value} {w : World} (h : Rp n c b2 o2 k B vn vc va x y cp w0 s0 L s w) (hi : L 17 = false) (d0 : L 0 = true) (d16 : L 16 = true) {g cap : Nat} {w3 : World} (hown : w3.ownsRow B 27 2 (.slice (some ⟨g, 0, none⟩) (vn + 2) cap) (vn + 2) (cp ++ [(.string ⟨x.toArray⟩), (.string ⟨y.toArray⟩), (.string ⟨y.toArray⟩), (.string ⟨y.toArray⟩)])) (hb : Below B w0 w3) : Rp n c b2 o2 k B vn vc va x y cp w0 s0 (fun i => L i || i == 17) (fun i => if i = 47 then (.slice (some ⟨g, 0, none⟩) (vn + 2) cap) else s i) w3 := by
  have hr : ∀ i, ¬ (30 ≤ i ∧ i ≤ 47) → i ≠ 7 → (if i = 47 then (.slice (some ⟨g, 0, none⟩) (vn + 2) cap) else s i) = s0 i := fun i h1 h2 => by rw [if_neg (by omega)]; exact h.rest i h1 h2
  refine ⟨hr, (by simpa using h.q0), (by simpa using h.q1), (by simpa using h.q2), (by simpa using h.q3), (by simpa using h.q4), (by simpa using h.q5), (by simpa using h.q6), (by simpa using h.q7), (by simpa using h.q8), (by simpa using h.q9), (by simpa using h.q10), (by simpa using h.q11), (by simpa using h.q12), (by simpa using h.q13), (by simpa using h.q14), (by simpa using h.q15), (by simpa using h.q16), (fun hh => by
    rw [show L 16 = true from d16] at hh
    simp at hh), (fun hh => by simp at hh), (fun _ => ⟨g, cap, w3, hown, hb, by simp, rfl, fun h18 => by
    have := h.p18 (by simpa using h18)
    rw [hi] at this
    cases this⟩), (by simpa using h.p15), (by simpa using h.p16), (fun _ => by simpa using ⟨d0, d16⟩), (fun h18 => by
    have := h.p18 (by simpa using h18)
    rw [hi] at this
    cases this), (by simpa using h.r7)⟩
theorem Rp.step18 {n c b2 o2 k B vn vc : Nat} {va : Option Addr} {x y : Str} {cp : List Value} {w0 : World} {s0 : Nat → Value} {L : Nat → Bool} {s : Nat → Value} {w : World} (h : Rp n c b2 o2 k B vn vc va x y cp w0 s0 L s w) (d17 : L 17 = true) : Rp n c b2 o2 k B vn vc va x y cp w0 s0 (fun i => L i || i == 18) (fun i => if i = 7 then s 47 else s i) w := by
  have hr : ∀ i, ¬ (30 ≤ i ∧ i ≤ 47) → i ≠ 7 → (if i = 7 then s 47 else s i) = s0 i := fun i h1 h2 => by rw [if_neg h2]; exact h.rest i h1 h2
  refine ⟨hr, (by simpa using h.q0), (by simpa using h.q1), (by simpa using h.q2), (by simpa using h.q3), (by simpa using h.q4), (by simpa using h.q5), (by simpa using h.q6), (by simpa using h.q7), (by simpa using h.q8), (by simpa using h.q9), (by simpa using h.q10), (by simpa using h.q11), (by simpa using h.q12), (by simpa using h.q13), (by simpa using h.q14), (by simpa using h.q15), (by simpa using h.q16), (by simpa using h.e0), (by simpa using h.e1), (fun hh => by
    obtain ⟨g, cap, w3, a1, a2, a3, a4, -⟩ := h.e2 (by simpa using hh)
    exact ⟨g, cap, w3, a1, a2, by simpa using a3, a4, fun _ => by simpa using a3⟩), (by simpa using h.p15), (by simpa using h.p16), (by simpa using h.p17), (fun _ => by simpa using d17), (fun hh => by simp at hh)⟩
def Inv (a0 : Act) (n c b2 o2 k B vn vc : Nat) (va : Option Addr) (x y : Str) (cp : List Value) (w0 : World) (listed : Array Bool) (a : Act) (w : World) : Prop :=
  ∃ s, a.tmps.size = a0.tmps.size ∧ a.defers = a0.defers ∧ (∀ i, a.tmps.getD i undef = s i) ∧ Rp n c b2 o2 k B vn vc va x y cp w0 (fun i => a0.tmps.getD i undef) (fun i => listed.getD i false) s w
theorem Inv.put {a0 : Act} {n c b2 o2 k B vn vc : Nat} {va : Option Addr} {x y : Str} {cp : List Value} {w0 : World} {s : Nat → Value} {w : World} {listed : Array Bool} {a : Act} {i d : Nat} {v : Value} (hs : a.tmps.size = a0.tmps.size) (hf : a.defers = a0.defers) (he : ∀ k, a.tmps.getD k undef = s k) (hd : d < a0.tmps.size) (hi : i < listed.size)
    (h : Rp n c b2 o2 k B vn vc va x y cp w0 (fun k => a0.tmps.getD k undef) (fun j => listed.getD j false || j == i) (fun k => if k = d then v else s k) w) : Inv a0 n c b2 o2 k B vn vc va x y cp w0 (listed.setIfInBounds i true) (a.put (some d) v) w := by
  refine ⟨_, by simp [Act.put, hs], by simp [Act.put, hf], fun k => ?_, by rw [show (fun j => (listed.setIfInBounds i true).getD j false) = fun j => listed.getD j false || j == i from funext fun j => getD_listed listed i hi j]; exact h⟩
  rw [getD_put a d v (by omega), he]
theorem case_0 {a0 : Act} {n c b2 o2 k B vn vc : Nat} {va : Option Addr} {x y : Str} {cp : List Value} {w0 : World} {w : World} {listed : Array Bool} {a : Act} (hsz : 48 ≤ a0.tmps.size) (hl : listed.size = 19) (h : Inv a0 n c b2 o2 k B vn vc va x y cp w0 listed a w) (h7 : a0.tmps.getD 7 undef = (.slice va vn vc)) (h18 : listed.getD 18 false = false)
    {Q : Exit → Act → World → Prop} (K : Act → World → Prop) (hK : ∀ a' w', Inv a0 n c b2 o2 k B vn vc va x y cp w0 (listed.setIfInBounds 0 true) a' w' → K a' w') : wpOp Try.prog opsR Q 0 K a w := by
  obtain ⟨s, hs, hf, he, hM⟩ := h
  refine wpOp_run (o := opsR[0]) (w' := w) (v := (.slice va vn vc)) rfl rfl ?_ (hK _ _ (Inv.put (d := 30) hs hf he (by omega) (by omega) hM.step0))
  refine (BigFrame.run_move (.tmp 7) rfl w).trans ?_
  have := hM.r7 h18
  show Result.ok (Next.value (a.tmps.getD 7 undef)) w = _
  rw [he, this]
  rw [h7]
theorem case_1 {a0 : Act} {n c b2 o2 k B vn vc : Nat} {va : Option Addr} {x y : Str} {cp : List Value} {w0 : World} {w : World} {listed : Array Bool} {a : Act} (hsz : 48 ≤ a0.tmps.size) (hl : listed.size = 19) (h : Inv a0 n c b2 o2 k B vn vc va x y cp w0 listed a w) (h0 : a0.tmps.getD 0 undef = (.slice (some ⟨b2, o2, none⟩) n c))
    {Q : Exit → Act → World → Prop} (K : Act → World → Prop) (hK : ∀ a' w', Inv a0 n c b2 o2 k B vn vc va x y cp w0 (listed.setIfInBounds 1 true) a' w' → K a' w') : wpOp Try.prog opsR Q 1 K a w := by
  obtain ⟨s, hs, hf, he, hM⟩ := h
  refine wpOp_run (o := opsR[1]) (w' := w) (v := (.slice (some ⟨b2, o2, none⟩) n c)) rfl rfl ?_ (hK _ _ (Inv.put (d := 31) hs hf he (by omega) (by omega) hM.step1))
  refine (BigFrame.run_move (.tmp 0) rfl w).trans ?_
  have := hM.rest 0 (by omega) (by omega)
  show Result.ok (Next.value (a.tmps.getD 0 undef)) w = _
  rw [he, this]
  rw [h0]
theorem case_2 {a0 : Act} {n c b2 o2 k B vn vc : Nat} {va : Option Addr} {x y : Str} {cp : List Value} {w0 : World} {w : World} {listed : Array Bool} {a : Act} (hsz : 48 ≤ a0.tmps.size) (hl : listed.size = 19) (h : Inv a0 n c b2 o2 k B vn vc va x y cp w0 listed a w) (h8 : a0.tmps.getD 8 undef = (.int .i64 (k : Nat)))
    {Q : Exit → Act → World → Prop} (K : Act → World → Prop) (hK : ∀ a' w', Inv a0 n c b2 o2 k B vn vc va x y cp w0 (listed.setIfInBounds 2 true) a' w' → K a' w') : wpOp Try.prog opsR Q 2 K a w := by
  obtain ⟨s, hs, hf, he, hM⟩ := h
  refine wpOp_run (o := opsR[2]) (w' := w) (v := (.int .i64 (k : Nat))) rfl rfl ?_ (hK _ _ (Inv.put (d := 32) hs hf he (by omega) (by omega) hM.step2))
  refine (BigFrame.run_move (.tmp 8) rfl w).trans ?_
  have := hM.rest 8 (by omega) (by omega)
  show Result.ok (Next.value (a.tmps.getD 8 undef)) w = _
  rw [he, this]
  rw [h8]
theorem case_3 {a0 : Act} {n c b2 o2 k B vn vc : Nat} {va : Option Addr} {x y : Str} {cp : List Value} {w0 : World} {w : World} {listed : Array Bool} {a : Act} (hsz : 48 ≤ a0.tmps.size) (hl : listed.size = 19) (h : Inv a0 n c b2 o2 k B vn vc va x y cp w0 listed a w) (d1 : listed.getD 1 false = true) (d2 : listed.getD 2 false = true) (hkn : (k : Int) < (n : Int))
    {Q : Exit → Act → World → Prop} (K : Act → World → Prop) (hK : ∀ a' w', Inv a0 n c b2 o2 k B vn vc va x y cp w0 (listed.setIfInBounds 3 true) a' w' → K a' w') : wpOp Try.prog opsR Q 3 K a w := by
  obtain ⟨s, hs, hf, he, hM⟩ := h
  have x1 : a.tmps[31]?.getD undef = (.slice (some ⟨b2, o2, none⟩) n c) := (Array.getD_eq_getD_getElem?.symm.trans (he 31)).trans (hM.q1 d1)
  have x2 : a.tmps[32]?.getD undef = (.int .i64 (k : Nat)) := (Array.getD_eq_getD_getElem?.symm.trans (he 32)).trans (hM.q2 d2)
  have hk0 : (0 : Int) ≤ (k : Int) := Int.natCast_nonneg k
  refine wpOp_run (o := opsR[3]) (w' := w) (v := (.pointer (some ⟨b2, o2 + k * 2, none⟩))) rfl rfl ?_ (hK _ _ (Inv.put (d := 33) hs hf he (by omega) (by omega) hM.step3))
  simp [opsR, execOp, x1, x2, hkn, go_sem]
theorem case_4 {a0 : Act} {n c b2 o2 k B vn vc : Nat} {va : Option Addr} {x y : Str} {cp : List Value} {w0 : World} {w : World} {listed : Array Bool} {a : Act} (hsz : 48 ≤ a0.tmps.size) (hl : listed.size = 19) (h : Inv a0 n c b2 o2 k B vn vc va x y cp w0 listed a w) (d3 : listed.getD 3 false = true) (h16 : listed.getD 16 false = false) (cX : w0.cell? ⟨b2, o2 + k * 2, none⟩ = some (.string ⟨x.toArray⟩)) (cY : w0.cell? ⟨b2, o2 + k * 2 + 1, none⟩ = some (.string ⟨y.toArray⟩))
    {Q : Exit → Act → World → Prop} (K : Act → World → Prop) (hK : ∀ a' w', Inv a0 n c b2 o2 k B vn vc va x y cp w0 (listed.setIfInBounds 4 true) a' w' → K a' w') : wpOp Try.prog opsR Q 4 K a w := by
  obtain ⟨s, hs, hf, he, hM⟩ := h
  have x3 : a.tmps[33]?.getD undef = (.pointer (some ⟨b2, o2 + k * 2, none⟩)) := (Array.getD_eq_getD_getElem?.symm.trans (he 33)).trans (hM.q3 d3)
  have hw := hM.e0 h16
  subst hw
  refine wpOp_run (o := opsR[4]) (w' := _) (v := (.agg #[(.string ⟨x.toArray⟩), (.string ⟨y.toArray⟩)])) rfl rfl ?_ (hK _ _ (Inv.put (d := 34) hs hf he (by omega) (by omega) hM.step4))
  simp [opsR, execOp, x3, cX, cY, go_sem]
theorem case_5 {a0 : Act} {n c b2 o2 k B vn vc : Nat} {va : Option Addr} {x y : Str} {cp : List Value} {w0 : World} {w : World} {listed : Array Bool} {a : Act} (hsz : 48 ≤ a0.tmps.size) (hl : listed.size = 19) (h : Inv a0 n c b2 o2 k B vn vc va x y cp w0 listed a w) (h0 : a0.tmps.getD 0 undef = (.slice (some ⟨b2, o2, none⟩) n c))
    {Q : Exit → Act → World → Prop} (K : Act → World → Prop) (hK : ∀ a' w', Inv a0 n c b2 o2 k B vn vc va x y cp w0 (listed.setIfInBounds 5 true) a' w' → K a' w') : wpOp Try.prog opsR Q 5 K a w := by
  obtain ⟨s, hs, hf, he, hM⟩ := h
  refine wpOp_run (o := opsR[5]) (w' := w) (v := (.slice (some ⟨b2, o2, none⟩) n c)) rfl rfl ?_ (hK _ _ (Inv.put (d := 35) hs hf he (by omega) (by omega) hM.step5))
  refine (BigFrame.run_move (.tmp 0) rfl w).trans ?_
  have := hM.rest 0 (by omega) (by omega)
  show Result.ok (Next.value (a.tmps.getD 0 undef)) w = _
  rw [he, this]
  rw [h0]
theorem case_6 {a0 : Act} {n c b2 o2 k B vn vc : Nat} {va : Option Addr} {x y : Str} {cp : List Value} {w0 : World} {w : World} {listed : Array Bool} {a : Act} (hsz : 48 ≤ a0.tmps.size) (hl : listed.size = 19) (h : Inv a0 n c b2 o2 k B vn vc va x y cp w0 listed a w) (h8 : a0.tmps.getD 8 undef = (.int .i64 (k : Nat)))
    {Q : Exit → Act → World → Prop} (K : Act → World → Prop) (hK : ∀ a' w', Inv a0 n c b2 o2 k B vn vc va x y cp w0 (listed.setIfInBounds 6 true) a' w' → K a' w') : wpOp Try.prog opsR Q 6 K a w := by
  obtain ⟨s, hs, hf, he, hM⟩ := h
  refine wpOp_run (o := opsR[6]) (w' := w) (v := (.int .i64 (k : Nat))) rfl rfl ?_ (hK _ _ (Inv.put (d := 36) hs hf he (by omega) (by omega) hM.step6))
  refine (BigFrame.run_move (.tmp 8) rfl w).trans ?_
  have := hM.rest 8 (by omega) (by omega)
  show Result.ok (Next.value (a.tmps.getD 8 undef)) w = _
  rw [he, this]
  rw [h8]
theorem case_7 {a0 : Act} {n c b2 o2 k B vn vc : Nat} {va : Option Addr} {x y : Str} {cp : List Value} {w0 : World} {w : World} {listed : Array Bool} {a : Act} (hsz : 48 ≤ a0.tmps.size) (hl : listed.size = 19) (h : Inv a0 n c b2 o2 k B vn vc va x y cp w0 listed a w) (d5 : listed.getD 5 false = true) (d6 : listed.getD 6 false = true) (hkn : (k : Int) < (n : Int))
    {Q : Exit → Act → World → Prop} (K : Act → World → Prop) (hK : ∀ a' w', Inv a0 n c b2 o2 k B vn vc va x y cp w0 (listed.setIfInBounds 7 true) a' w' → K a' w') : wpOp Try.prog opsR Q 7 K a w := by
  obtain ⟨s, hs, hf, he, hM⟩ := h
  have x5 : a.tmps[35]?.getD undef = (.slice (some ⟨b2, o2, none⟩) n c) := (Array.getD_eq_getD_getElem?.symm.trans (he 35)).trans (hM.q5 d5)
  have x6 : a.tmps[36]?.getD undef = (.int .i64 (k : Nat)) := (Array.getD_eq_getD_getElem?.symm.trans (he 36)).trans (hM.q6 d6)
  have hk0 : (0 : Int) ≤ (k : Int) := Int.natCast_nonneg k
  refine wpOp_run (o := opsR[7]) (w' := w) (v := (.pointer (some ⟨b2, o2 + k * 2, none⟩))) rfl rfl ?_ (hK _ _ (Inv.put (d := 37) hs hf he (by omega) (by omega) hM.step7))
  simp [opsR, execOp, x5, x6, hkn, go_sem]
theorem case_8 {a0 : Act} {n c b2 o2 k B vn vc : Nat} {va : Option Addr} {x y : Str} {cp : List Value} {w0 : World} {w : World} {listed : Array Bool} {a : Act} (hsz : 48 ≤ a0.tmps.size) (hl : listed.size = 19) (h : Inv a0 n c b2 o2 k B vn vc va x y cp w0 listed a w) (d7 : listed.getD 7 false = true)
    {Q : Exit → Act → World → Prop} (K : Act → World → Prop) (hK : ∀ a' w', Inv a0 n c b2 o2 k B vn vc va x y cp w0 (listed.setIfInBounds 8 true) a' w' → K a' w') : wpOp Try.prog opsR Q 8 K a w := by
  obtain ⟨s, hs, hf, he, hM⟩ := h
  have x7 : a.tmps[37]?.getD undef = (.pointer (some ⟨b2, o2 + k * 2, none⟩)) := (Array.getD_eq_getD_getElem?.symm.trans (he 37)).trans (hM.q7 d7)
  refine wpOp_run (o := opsR[8]) (w' := w) (v := (.pointer (some ⟨b2, o2 + k * 2 + 1, none⟩))) rfl rfl ?_ (hK _ _ (Inv.put (d := 38) hs hf he (by omega) (by omega) hM.step8))
  simp [opsR, execOp, x7, go_sem]
theorem case_9 {a0 : Act} {n c b2 o2 k B vn vc : Nat} {va : Option Addr} {x y : Str} {cp : List Value} {w0 : World} {w : World} {listed : Array Bool} {a : Act} (hsz : 48 ≤ a0.tmps.size) (hl : listed.size = 19) (h : Inv a0 n c b2 o2 k B vn vc va x y cp w0 listed a w) (d8 : listed.getD 8 false = true) (h16 : listed.getD 16 false = false) (cX : w0.cell? ⟨b2, o2 + k * 2, none⟩ = some (.string ⟨x.toArray⟩)) (cY : w0.cell? ⟨b2, o2 + k * 2 + 1, none⟩ = some (.string ⟨y.toArray⟩))
    {Q : Exit → Act → World → Prop} (K : Act → World → Prop) (hK : ∀ a' w', Inv a0 n c b2 o2 k B vn vc va x y cp w0 (listed.setIfInBounds 9 true) a' w' → K a' w') : wpOp Try.prog opsR Q 9 K a w := by
  obtain ⟨s, hs, hf, he, hM⟩ := h
  have x8 : a.tmps[38]?.getD undef = (.pointer (some ⟨b2, o2 + k * 2 + 1, none⟩)) := (Array.getD_eq_getD_getElem?.symm.trans (he 38)).trans (hM.q8 d8)
  have hw := hM.e0 h16
  subst hw
  refine wpOp_run (o := opsR[9]) (w' := _) (v := (.string ⟨y.toArray⟩)) rfl rfl ?_ (hK _ _ (Inv.put (d := 39) hs hf he (by omega) (by omega) hM.step9))
  simp [opsR, execOp, x8, cY, go_sem]
theorem case_10 {a0 : Act} {n c b2 o2 k B vn vc : Nat} {va : Option Addr} {x y : Str} {cp : List Value} {w0 : World} {w : World} {listed : Array Bool} {a : Act} (hsz : 48 ≤ a0.tmps.size) (hl : listed.size = 19) (h : Inv a0 n c b2 o2 k B vn vc va x y cp w0 listed a w) (h0 : a0.tmps.getD 0 undef = (.slice (some ⟨b2, o2, none⟩) n c))
    {Q : Exit → Act → World → Prop} (K : Act → World → Prop) (hK : ∀ a' w', Inv a0 n c b2 o2 k B vn vc va x y cp w0 (listed.setIfInBounds 10 true) a' w' → K a' w') : wpOp Try.prog opsR Q 10 K a w := by
  obtain ⟨s, hs, hf, he, hM⟩ := h
  refine wpOp_run (o := opsR[10]) (w' := w) (v := (.slice (some ⟨b2, o2, none⟩) n c)) rfl rfl ?_ (hK _ _ (Inv.put (d := 40) hs hf he (by omega) (by omega) hM.step10))
  refine (BigFrame.run_move (.tmp 0) rfl w).trans ?_
  have := hM.rest 0 (by omega) (by omega)
  show Result.ok (Next.value (a.tmps.getD 0 undef)) w = _
  rw [he, this]
  rw [h0]
theorem case_11 {a0 : Act} {n c b2 o2 k B vn vc : Nat} {va : Option Addr} {x y : Str} {cp : List Value} {w0 : World} {w : World} {listed : Array Bool} {a : Act} (hsz : 48 ≤ a0.tmps.size) (hl : listed.size = 19) (h : Inv a0 n c b2 o2 k B vn vc va x y cp w0 listed a w) (h8 : a0.tmps.getD 8 undef = (.int .i64 (k : Nat)))
    {Q : Exit → Act → World → Prop} (K : Act → World → Prop) (hK : ∀ a' w', Inv a0 n c b2 o2 k B vn vc va x y cp w0 (listed.setIfInBounds 11 true) a' w' → K a' w') : wpOp Try.prog opsR Q 11 K a w := by
  obtain ⟨s, hs, hf, he, hM⟩ := h
  refine wpOp_run (o := opsR[11]) (w' := w) (v := (.int .i64 (k : Nat))) rfl rfl ?_ (hK _ _ (Inv.put (d := 41) hs hf he (by omega) (by omega) hM.step11))
  refine (BigFrame.run_move (.tmp 8) rfl w).trans ?_
  have := hM.rest 8 (by omega) (by omega)
  show Result.ok (Next.value (a.tmps.getD 8 undef)) w = _
  rw [he, this]
  rw [h8]
theorem case_12 {a0 : Act} {n c b2 o2 k B vn vc : Nat} {va : Option Addr} {x y : Str} {cp : List Value} {w0 : World} {w : World} {listed : Array Bool} {a : Act} (hsz : 48 ≤ a0.tmps.size) (hl : listed.size = 19) (h : Inv a0 n c b2 o2 k B vn vc va x y cp w0 listed a w) (d10 : listed.getD 10 false = true) (d11 : listed.getD 11 false = true) (hkn : (k : Int) < (n : Int))
    {Q : Exit → Act → World → Prop} (K : Act → World → Prop) (hK : ∀ a' w', Inv a0 n c b2 o2 k B vn vc va x y cp w0 (listed.setIfInBounds 12 true) a' w' → K a' w') : wpOp Try.prog opsR Q 12 K a w := by
  obtain ⟨s, hs, hf, he, hM⟩ := h
  have x10 : a.tmps[40]?.getD undef = (.slice (some ⟨b2, o2, none⟩) n c) := (Array.getD_eq_getD_getElem?.symm.trans (he 40)).trans (hM.q10 d10)
  have x11 : a.tmps[41]?.getD undef = (.int .i64 (k : Nat)) := (Array.getD_eq_getD_getElem?.symm.trans (he 41)).trans (hM.q11 d11)
  have hk0 : (0 : Int) ≤ (k : Int) := Int.natCast_nonneg k
  refine wpOp_run (o := opsR[12]) (w' := w) (v := (.pointer (some ⟨b2, o2 + k * 2, none⟩))) rfl rfl ?_ (hK _ _ (Inv.put (d := 42) hs hf he (by omega) (by omega) hM.step12))
  simp [opsR, execOp, x10, x11, hkn, go_sem]
theorem case_13 {a0 : Act} {n c b2 o2 k B vn vc : Nat} {va : Option Addr} {x y : Str} {cp : List Value} {w0 : World} {w : World} {listed : Array Bool} {a : Act} (hsz : 48 ≤ a0.tmps.size) (hl : listed.size = 19) (h : Inv a0 n c b2 o2 k B vn vc va x y cp w0 listed a w) (d12 : listed.getD 12 false = true)
    {Q : Exit → Act → World → Prop} (K : Act → World → Prop) (hK : ∀ a' w', Inv a0 n c b2 o2 k B vn vc va x y cp w0 (listed.setIfInBounds 13 true) a' w' → K a' w') : wpOp Try.prog opsR Q 13 K a w := by
  obtain ⟨s, hs, hf, he, hM⟩ := h
  have x12 : a.tmps[42]?.getD undef = (.pointer (some ⟨b2, o2 + k * 2, none⟩)) := (Array.getD_eq_getD_getElem?.symm.trans (he 42)).trans (hM.q12 d12)
  refine wpOp_run (o := opsR[13]) (w' := w) (v := (.pointer (some ⟨b2, o2 + k * 2 + 1, none⟩))) rfl rfl ?_ (hK _ _ (Inv.put (d := 43) hs hf he (by omega) (by omega) hM.step13))
  simp [opsR, execOp, x12, go_sem]
theorem case_14 {a0 : Act} {n c b2 o2 k B vn vc : Nat} {va : Option Addr} {x y : Str} {cp : List Value} {w0 : World} {w : World} {listed : Array Bool} {a : Act} (hsz : 48 ≤ a0.tmps.size) (hl : listed.size = 19) (h : Inv a0 n c b2 o2 k B vn vc va x y cp w0 listed a w) (d13 : listed.getD 13 false = true) (h16 : listed.getD 16 false = false) (cX : w0.cell? ⟨b2, o2 + k * 2, none⟩ = some (.string ⟨x.toArray⟩)) (cY : w0.cell? ⟨b2, o2 + k * 2 + 1, none⟩ = some (.string ⟨y.toArray⟩))
    {Q : Exit → Act → World → Prop} (K : Act → World → Prop) (hK : ∀ a' w', Inv a0 n c b2 o2 k B vn vc va x y cp w0 (listed.setIfInBounds 14 true) a' w' → K a' w') : wpOp Try.prog opsR Q 14 K a w := by
  obtain ⟨s, hs, hf, he, hM⟩ := h
  have x13 : a.tmps[43]?.getD undef = (.pointer (some ⟨b2, o2 + k * 2 + 1, none⟩)) := (Array.getD_eq_getD_getElem?.symm.trans (he 43)).trans (hM.q13 d13)
  have hw := hM.e0 h16
  subst hw
  refine wpOp_run (o := opsR[14]) (w' := _) (v := (.string ⟨y.toArray⟩)) rfl rfl ?_ (hK _ _ (Inv.put (d := 44) hs hf he (by omega) (by omega) hM.step14))
  simp [opsR, execOp, x13, cY, go_sem]
theorem case_15 {a0 : Act} {n c b2 o2 k B vn vc : Nat} {va : Option Addr} {x y : Str} {cp : List Value} {w0 : World} {w : World} {listed : Array Bool} {a : Act} (hsz : 48 ≤ a0.tmps.size) (hl : listed.size = 19) (h : Inv a0 n c b2 o2 k B vn vc va x y cp w0 listed a w) (d9 : listed.getD 9 false = true) (d14 : listed.getD 14 false = true)
    {Q : Exit → Act → World → Prop} (K : Act → World → Prop) (hK : ∀ a' w', Inv a0 n c b2 o2 k B vn vc va x y cp w0 (listed.setIfInBounds 15 true) a' w' → K a' w') : wpOp Try.prog opsR Q 15 K a w := by
  obtain ⟨s, hs, hf, he, hM⟩ := h
  have x9 : a.tmps[39]?.getD undef = (.string ⟨y.toArray⟩) := (Array.getD_eq_getD_getElem?.symm.trans (he 39)).trans (hM.q9 d9)
  have x14 : a.tmps[44]?.getD undef = (.string ⟨y.toArray⟩) := (Array.getD_eq_getD_getElem?.symm.trans (he 44)).trans (hM.q14 d14)
  refine wpOp_run (o := opsR[15]) (w' := w) (v := (.agg #[(.string ⟨y.toArray⟩), (.string ⟨y.toArray⟩)])) rfl rfl ?_ (hK _ _ (Inv.put (d := 45) hs hf he (by omega) (by omega) (hM.step15 ⟨d9, d14⟩)))
  simp [opsR, execOp, x9, x14, go_sem]
theorem case_16 {a0 : Act} {n c b2 o2 k B vn vc : Nat} {va : Option Addr} {x y : Str} {cp : List Value} {w0 : World} {w : World} {listed : Array Bool} {a : Act} (hsz : 48 ≤ a0.tmps.size) (hl : listed.size = 19) (h : Inv a0 n c b2 o2 k B vn vc va x y cp w0 listed a w) (d4 : listed.getD 4 false = true) (d15 : listed.getD 15 false = true) (hi : listed.getD 16 false = false)
    {Q : Exit → Act → World → Prop} (K : Act → World → Prop) (hK : ∀ a' w', Inv a0 n c b2 o2 k B vn vc va x y cp w0 (listed.setIfInBounds 16 true) a' w' → K a' w') : wpOp Try.prog opsR Q 16 K a w := by
  obtain ⟨s, hs, hf, he, hM⟩ := h
  have x4 : a.tmps[34]?.getD undef = (.agg #[(.string ⟨x.toArray⟩), (.string ⟨y.toArray⟩)]) := (Array.getD_eq_getD_getElem?.symm.trans (he 34)).trans (hM.q4 d4)
  have x15 : a.tmps[45]?.getD undef = (.agg #[(.string ⟨y.toArray⟩), (.string ⟨y.toArray⟩)]) := (Array.getD_eq_getD_getElem?.symm.trans (he 45)).trans (hM.q15 d15)
  refine wpOp_run (o := opsR[16]) (w' := w.alloc (.cells #[(.string ⟨x.toArray⟩), (.string ⟨y.toArray⟩), (.string ⟨y.toArray⟩), (.string ⟨y.toArray⟩)] 27)) (v := (.slice (some ⟨w0.heap.size, 0, none⟩) 2 2)) rfl rfl ?_ (hK _ _ (Inv.put (d := 46) hs hf he (by omega) (by omega) (hM.step16 hi d4 d15)))
  have hw := hM.e0 hi
  rw [← hw]
  simp [opsR, execOp, x4, x15, go_sem]
theorem case_17 {a0 : Act} {n c b2 o2 k B vn vc : Nat} {va : Option Addr} {x y : Str} {cp : List Value} {w0 : World} {w : World} {listed : Array Bool} {a : Act} (hsz : 48 ≤ a0.tmps.size) (hl : listed.size = 19) (h : Inv a0 n c b2 o2 k B vn vc va x y cp w0 listed a w) (d0 : listed.getD 0 false = true) (d16 : listed.getD 16 false = true) (hi : listed.getD 17 false = false)
    (hown : w0.ownsRow B 27 2 (.slice va vn vc) vn cp) (hB : B ≤ w0.heap.size) (hlen : vn ≤ 4194304)
    {Q : Exit → Act → World → Prop} (K : Act → World → Prop) (hK : ∀ a' w', Inv a0 n c b2 o2 k B vn vc va x y cp w0 (listed.setIfInBounds 17 true) a' w' → K a' w') : wpOp Try.prog opsR Q 17 K a w := by
  obtain ⟨s, hs, hf, he, hM⟩ := h
  have x0 : a.eval (.tmp 30) = (.slice va vn vc) := (he 30).trans (hM.q0 d0)
  have x16 : a.eval (.tmp 46) = (.slice (some ⟨w0.heap.size, 0, none⟩) 2 2) := (he 46).trans (hM.q16 d16)
  have hw := hM.e1 hi d16
  obtain ⟨i0, hi0, hz0, hz1, hz2⟩ := info_parts pair_info
  have hblk : ∀ q, (Value.slice va vn vc).ownBlock = some q → B ≤ q ∧ q < w0.heap.size := ownsRow_block hown
  subst hw
  obtain ⟨g, cap, w3, hr, h2, h3, h4, h5⟩ := run_append_lies (P := Try.prog) (w0.alloc (.cells #[(.string ⟨x.toArray⟩), (.string ⟨y.toArray⟩), (.string ⟨y.toArray⟩), (.string ⟨y.toArray⟩)] 27)) 22 22 B 27 i0 _ 2 32 Try.underlying22 hi0 hz0 hz1 hz2 rfl (by omega) (.slice va vn vc) vn cp (hown.alloc _)
    ⟨w0.heap.size, 0, none⟩ 2 2 [(.string ⟨x.toArray⟩), (.string ⟨y.toArray⟩), (.string ⟨y.toArray⟩), (.string ⟨y.toArray⟩)] rfl (World.news_of_block (cs := #[(.string ⟨x.toArray⟩), (.string ⟨y.toArray⟩), (.string ⟨y.toArray⟩), (.string ⟨y.toArray⟩)]) (t := 27) (fr := (0, 0)) (heap_alloc_new w0 _)) (by simp [Value.oneCell']) (by omega) (by unfold maxLen; omega) (by omega) (by simp; omega) (w0.heap.size + 1) (by simp)
  have hb : Below B w0 w3 := ((Below.refl B w0).alloc hB _).grown h3 (by simp; omega) (fun q e => (hblk q e).1)
  refine wpOp_run (o := opsR[17]) (w' := w3) (v := .slice (some ⟨g, 0, none⟩) (vn + 2) cap) rfl rfl ?_ (hK _ _ (Inv.put (d := 47) hs hf he (by omega) (by omega) (hM.step17 hi d0 d16 h2 hb)))
  unfold execOp
  simp only [opsR, List.getElem_toArray, List.getElem_cons_succ, List.getElem_cons_zero, resolve, invoke, builtin, Sem.run_bind, Sem.run_pure, Result.andThen_ok, List.map_toArray, List.map_cons, List.map_nil, x0, x16, hr]
theorem case_18 {a0 : Act} {n c b2 o2 k B vn vc : Nat} {va : Option Addr} {x y : Str} {cp : List Value} {w0 : World} {w : World} {listed : Array Bool} {a : Act} (hsz : 48 ≤ a0.tmps.size) (hl : listed.size = 19) (h : Inv a0 n c b2 o2 k B vn vc va x y cp w0 listed a w) (d17 : listed.getD 17 false = true)
    {Q : Exit → Act → World → Prop} (K : Act → World → Prop) (hK : ∀ a' w', Inv a0 n c b2 o2 k B vn vc va x y cp w0 (listed.setIfInBounds 18 true) a' w' → K a' w') : wpOp Try.prog opsR Q 18 K a w := by
  obtain ⟨s, hs, hf, he, hM⟩ := h
  refine wpOp_run (o := opsR[18]) (w' := w) (v := s 47) rfl rfl ?_ (hK _ _ (Inv.put (d := 7) hs hf he (by omega) (by omega) (hM.step18 d17)))
  refine (BigFrame.run_assign (.tmp 47) rfl w).trans ?_
  show Result.ok (Next.value (a.tmps.getD 47 undef)) w = _
  rw [he]
theorem no18 {a0 : Act} {n c b2 o2 k B vn vc : Nat} {va : Option Addr} {x y : Str} {cp : List Value} {w0 : World} {w : World} {listed : Array Bool} {a : Act} (h : Inv a0 n c b2 o2 k B vn vc va x y cp w0 listed a w) (hf : listed.getD 0 false = false) : listed.getD 18 false = false := by
  obtain ⟨s, -, -, -, hM⟩ := h
  cases hc : listed.getD 18 false with
  | false => rfl
  | true =>
    have := (hM.p17 (hM.p18 hc)).1
    rw [hf] at this
    cases this
theorem no16 {a0 : Act} {n c b2 o2 k B vn vc : Nat} {va : Option Addr} {x y : Str} {cp : List Value} {w0 : World} {w : World} {listed : Array Bool} {a : Act} (h : Inv a0 n c b2 o2 k B vn vc va x y cp w0 listed a w) (hf : listed.getD 4 false = false ∨ listed.getD 9 false = false ∨ listed.getD 14 false = false) : listed.getD 16 false = false := by
  obtain ⟨s, -, -, -, hM⟩ := h
  cases hc : listed.getD 16 false with
  | false => rfl
  | true =>
    obtain ⟨h1, h2, h3⟩ := hM.p16 hc
    rcases hf with hf | hf | hf
    · rw [hf] at h1; cases h1
    · rw [hf] at h2; cases h2
    · rw [hf] at h3; cases h3
theorem getD_put48 (a : Act) (d : Nat) (v : Value) (h : 48 ≤ a.tmps.size) (hd : d < 48) (k : Nat) : (a.put (some d) v).tmps.getD k undef = if k = d then v else a.tmps.getD k undef := getD_put a d v (by omega) k
set_option maxHeartbeats 2000000 in
theorem app_region (a0 : Act) (w1 : World) (n c b2 o2 k B vn vc : Nat) (va : Option Addr) (x y : Str) (cp : List Value) (hsz : 48 ≤ a0.tmps.size)
    (h7 : a0.tmps.getD 7 undef = .slice va vn vc) (h8 : a0.tmps.getD 8 undef = (.int .i64 (k : Nat))) (h0 : a0.tmps.getD 0 undef = (.slice (some ⟨b2, o2, none⟩) n c))
    (cX0 : w1.cell? ⟨b2, o2 + k * 2, none⟩ = some (.string ⟨x.toArray⟩)) (cY0 : w1.cell? ⟨b2, o2 + k * 2 + 1, none⟩ = some (.string ⟨y.toArray⟩)) (hkn : k < n)
    (hown0 : w1.ownsRow B 27 2 (.slice va vn vc) vn cp) (hB0 : B ≤ w1.heap.size) (hlen : vn ≤ 4194304)
    (id : Nat) (Q : Exit → Act → World → Prop)
    (hQ : ∀ (g cap : Nat) (w3 : World) (x_ : Nat → Value), w3.ownsRow B 27 2 (.slice (some ⟨g, 0, none⟩) (vn + 2) cap) (vn + 2) (cp ++ [(.string ⟨x.toArray⟩), (.string ⟨y.toArray⟩), (.string ⟨y.toArray⟩), (.string ⟨y.toArray⟩)]) → Below B w1 w3 → x_ 7 = .slice (some ⟨g, 0, none⟩) (vn + 2) cap →
      Q .normal (((((((((((((((((((a0.put (some 30) (x_ 30)).put (some 31) (x_ 31)).put (some 32) (x_ 32)).put (some 33) (x_ 33)).put (some 34) (x_ 34)).put (some 35) (x_ 35)).put (some 36) (x_ 36)).put (some 37) (x_ 37)).put (some 38) (x_ 38)).put (some 39) (x_ 39)).put (some 40) (x_ 40)).put (some 41) (x_ 41)).put (some 42) (x_ 42)).put (some 43) (x_ 43)).put (some 44) (x_ 44)).put (some 45) (x_ 45)).put (some 46) (x_ 46)).put (some 47) (x_ 47)).put (some 7) (x_ 7)) w3) : (Code.region id opsR true).wp Try.prog Q a0 w1 := by
  have hkI : (k : Int) < (n : Int) := by omega
  have hown : w1.drew.ownsRow B 27 2 (.slice va vn vc) vn cp := hown0.drew
  have hB : B ≤ w1.drew.heap.size := hB0
  have cX : w1.drew.cell? ⟨b2, o2 + k * 2, none⟩ = some (.string ⟨x.toArray⟩) := cX0
  have cY : w1.drew.cell? ⟨b2, o2 + k * 2 + 1, none⟩ = some (.string ⟨y.toArray⟩) := cY0
  refine wp_region_any (by kernel_rfl) (wpAny_inv (Inv a0 n c b2 o2 k B vn vc va x y cp w1.drew) ?_ ?_ opsR.size _ a0 _ (by simp) (by simp [opsR]) ?_)
  · intro listed a w i hls h hi K hK
    have hl : listed.size = 19 := hls
    obtain ⟨hff, o, ho, hdep0⟩ := mem_ready.1 hi
    have hf := false_of listed i hff
    have hi19 : i < 19 := by
      rcases Nat.lt_or_ge i 19 with h' | h'
      · exact h'
      · have : opsR[i]? = none := Array.getElem?_eq_none h'
        rw [this] at ho; cases ho
    have hdep : ∀ (o' : Oper), opsR[i]? = some o' → ∀ e ∈ o'.after, Region.binds .any e = true → listed.getD e.on false = true := fun o' ho' e he hb => by
      rw [ho] at ho'
      have := Option.some.inj ho'
      subst this
      exact hdep0 e he hb
    have hc : i = 0 ∨ i = 1 ∨ i = 2 ∨ i = 3 ∨ i = 4 ∨ i = 5 ∨ i = 6 ∨ i = 7 ∨ i = 8 ∨ i = 9 ∨ i = 10 ∨ i = 11 ∨ i = 12 ∨ i = 13 ∨ i = 14 ∨ i = 15 ∨ i = 16 ∨ i = 17 ∨ i = 18 := by omega
    clear hdep0 ho hi hff
    rcases hc with rfl | rfl | rfl | rfl | rfl | rfl | rfl | rfl | rfl | rfl | rfl | rfl | rfl | rfl | rfl | rfl | rfl | rfl | rfl
    · exact case_0 hsz hl h h7 (no18 h hf) K hK
    · exact case_1 hsz hl h h0 K hK
    · exact case_2 hsz hl h h8 K hK
    · have hd : ∀ j, (⟨j, Ground.data⟩ : Edge) ∈ opsR[3].after → listed.getD j false = true := fun j hj => hdep _ rfl _ hj rfl
      exact case_3 hsz hl h (hd 1 (by simp [opsR])) (hd 2 (by simp [opsR])) hkI K hK
    · have hd : ∀ j, (⟨j, Ground.data⟩ : Edge) ∈ opsR[4].after → listed.getD j false = true := fun j hj => hdep _ rfl _ hj rfl
      exact case_4 hsz hl h (hd 3 (by simp [opsR])) (no16 h (.inl hf)) cX cY K hK
    · exact case_5 hsz hl h h0 K hK
    · exact case_6 hsz hl h h8 K hK
    · have hd : ∀ j, (⟨j, Ground.data⟩ : Edge) ∈ opsR[7].after → listed.getD j false = true := fun j hj => hdep _ rfl _ hj rfl
      exact case_7 hsz hl h (hd 5 (by simp [opsR])) (hd 6 (by simp [opsR])) hkI K hK
    · have hd : ∀ j, (⟨j, Ground.data⟩ : Edge) ∈ opsR[8].after → listed.getD j false = true := fun j hj => hdep _ rfl _ hj rfl
      exact case_8 hsz hl h (hd 7 (by simp [opsR])) K hK
    · have hd : ∀ j, (⟨j, Ground.data⟩ : Edge) ∈ opsR[9].after → listed.getD j false = true := fun j hj => hdep _ rfl _ hj rfl
      exact case_9 hsz hl h (hd 8 (by simp [opsR])) (no16 h (.inr (.inl hf))) cX cY K hK
    · exact case_10 hsz hl h h0 K hK
    · exact case_11 hsz hl h h8 K hK
    · have hd : ∀ j, (⟨j, Ground.data⟩ : Edge) ∈ opsR[12].after → listed.getD j false = true := fun j hj => hdep _ rfl _ hj rfl
      exact case_12 hsz hl h (hd 10 (by simp [opsR])) (hd 11 (by simp [opsR])) hkI K hK
    · have hd : ∀ j, (⟨j, Ground.data⟩ : Edge) ∈ opsR[13].after → listed.getD j false = true := fun j hj => hdep _ rfl _ hj rfl
      exact case_13 hsz hl h (hd 12 (by simp [opsR])) K hK
    · have hd : ∀ j, (⟨j, Ground.data⟩ : Edge) ∈ opsR[14].after → listed.getD j false = true := fun j hj => hdep _ rfl _ hj rfl
      exact case_14 hsz hl h (hd 13 (by simp [opsR])) (no16 h (.inr (.inr hf))) cX cY K hK
    · have hd : ∀ j, (⟨j, Ground.data⟩ : Edge) ∈ opsR[15].after → listed.getD j false = true := fun j hj => hdep _ rfl _ hj rfl
      exact case_15 hsz hl h (hd 9 (by simp [opsR])) (hd 14 (by simp [opsR])) K hK
    · have hd : ∀ j, (⟨j, Ground.data⟩ : Edge) ∈ opsR[16].after → listed.getD j false = true := fun j hj => hdep _ rfl _ hj rfl
      exact case_16 hsz hl h (hd 4 (by simp [opsR])) (hd 15 (by simp [opsR])) hf K hK
    · have hd : ∀ j, (⟨j, Ground.data⟩ : Edge) ∈ opsR[17].after → listed.getD j false = true := fun j hj => hdep _ rfl _ hj rfl
      exact case_17 hsz hl h (hd 0 (by simp [opsR])) (hd 16 (by simp [opsR])) hf hown hB hlen K hK
    · have hd : ∀ j, (⟨j, Ground.data⟩ : Edge) ∈ opsR[18].after → listed.getD j false = true := fun j hj => hdep _ rfl _ hj rfl
      exact case_18 hsz hl h (hd 17 (by simp [opsR])) K hK
  · intro listed a w hls h hr
    have hl : listed.size = 19 := hls
    have l0 : listed.getD 0 false = true := by
      cases hc : listed.getD 0 false with
      | true => rfl
      | false =>
        have ha : ∀ e ∈ opsR[0].after, listed.getD e.on false = true := by
          intro e he
          have ho : e.on ∈ opsR[0].after.toList.map (·.on) := List.mem_map.2 ⟨e, Array.mem_toList_iff.2 he, rfl⟩
          have hll : opsR[0].after.toList.map (·.on) = [] := rfl
          rw [hll] at ho
          generalize e.on = j at ho
          cases ho
          skip
        have hm : 0 ∈ Region.ready .any opsR listed := mem_ready.2 ⟨true_of listed 0 (by omega) hc, _, rfl, fun e he _ => ha e he⟩
        rw [hr] at hm
        cases hm
    have l1 : listed.getD 1 false = true := by
      cases hc : listed.getD 1 false with
      | true => rfl
      | false =>
        have ha : ∀ e ∈ opsR[1].after, listed.getD e.on false = true := by
          intro e he
          have ho : e.on ∈ opsR[1].after.toList.map (·.on) := List.mem_map.2 ⟨e, Array.mem_toList_iff.2 he, rfl⟩
          have hll : opsR[1].after.toList.map (·.on) = [] := rfl
          rw [hll] at ho
          generalize e.on = j at ho
          cases ho
          skip
        have hm : 1 ∈ Region.ready .any opsR listed := mem_ready.2 ⟨true_of listed 1 (by omega) hc, _, rfl, fun e he _ => ha e he⟩
        rw [hr] at hm
        cases hm
    have l2 : listed.getD 2 false = true := by
      cases hc : listed.getD 2 false with
      | true => rfl
      | false =>
        have ha : ∀ e ∈ opsR[2].after, listed.getD e.on false = true := by
          intro e he
          have ho : e.on ∈ opsR[2].after.toList.map (·.on) := List.mem_map.2 ⟨e, Array.mem_toList_iff.2 he, rfl⟩
          have hll : opsR[2].after.toList.map (·.on) = [] := rfl
          rw [hll] at ho
          generalize e.on = j at ho
          cases ho
          skip
        have hm : 2 ∈ Region.ready .any opsR listed := mem_ready.2 ⟨true_of listed 2 (by omega) hc, _, rfl, fun e he _ => ha e he⟩
        rw [hr] at hm
        cases hm
    have l3 : listed.getD 3 false = true := by
      cases hc : listed.getD 3 false with
      | true => rfl
      | false =>
        have ha : ∀ e ∈ opsR[3].after, listed.getD e.on false = true := by
          intro e he
          have ho : e.on ∈ opsR[3].after.toList.map (·.on) := List.mem_map.2 ⟨e, Array.mem_toList_iff.2 he, rfl⟩
          have hll : opsR[3].after.toList.map (·.on) = [1, 2] := rfl
          rw [hll] at ho
          generalize e.on = j at ho
          simp at ho
          rcases ho with rfl | rfl <;> assumption
        have hm : 3 ∈ Region.ready .any opsR listed := mem_ready.2 ⟨true_of listed 3 (by omega) hc, _, rfl, fun e he _ => ha e he⟩
        rw [hr] at hm
        cases hm
    have l4 : listed.getD 4 false = true := by
      cases hc : listed.getD 4 false with
      | true => rfl
      | false =>
        have ha : ∀ e ∈ opsR[4].after, listed.getD e.on false = true := by
          intro e he
          have ho : e.on ∈ opsR[4].after.toList.map (·.on) := List.mem_map.2 ⟨e, Array.mem_toList_iff.2 he, rfl⟩
          have hll : opsR[4].after.toList.map (·.on) = [3] := rfl
          rw [hll] at ho
          generalize e.on = j at ho
          simp at ho
          subst ho; assumption
        have hm : 4 ∈ Region.ready .any opsR listed := mem_ready.2 ⟨true_of listed 4 (by omega) hc, _, rfl, fun e he _ => ha e he⟩
        rw [hr] at hm
        cases hm
    have l5 : listed.getD 5 false = true := by
      cases hc : listed.getD 5 false with
      | true => rfl
      | false =>
        have ha : ∀ e ∈ opsR[5].after, listed.getD e.on false = true := by
          intro e he
          have ho : e.on ∈ opsR[5].after.toList.map (·.on) := List.mem_map.2 ⟨e, Array.mem_toList_iff.2 he, rfl⟩
          have hll : opsR[5].after.toList.map (·.on) = [] := rfl
          rw [hll] at ho
          generalize e.on = j at ho
          cases ho
          skip
        have hm : 5 ∈ Region.ready .any opsR listed := mem_ready.2 ⟨true_of listed 5 (by omega) hc, _, rfl, fun e he _ => ha e he⟩
        rw [hr] at hm
        cases hm
    have l6 : listed.getD 6 false = true := by
      cases hc : listed.getD 6 false with
      | true => rfl
      | false =>
        have ha : ∀ e ∈ opsR[6].after, listed.getD e.on false = true := by
          intro e he
          have ho : e.on ∈ opsR[6].after.toList.map (·.on) := List.mem_map.2 ⟨e, Array.mem_toList_iff.2 he, rfl⟩
          have hll : opsR[6].after.toList.map (·.on) = [] := rfl
          rw [hll] at ho
          generalize e.on = j at ho
          cases ho
          skip
        have hm : 6 ∈ Region.ready .any opsR listed := mem_ready.2 ⟨true_of listed 6 (by omega) hc, _, rfl, fun e he _ => ha e he⟩
        rw [hr] at hm
        cases hm
    have l7 : listed.getD 7 false = true := by
      cases hc : listed.getD 7 false with
      | true => rfl
      | false =>
        have ha : ∀ e ∈ opsR[7].after, listed.getD e.on false = true := by
          intro e he
          have ho : e.on ∈ opsR[7].after.toList.map (·.on) := List.mem_map.2 ⟨e, Array.mem_toList_iff.2 he, rfl⟩
          have hll : opsR[7].after.toList.map (·.on) = [5, 6] := rfl
          rw [hll] at ho
          generalize e.on = j at ho
          simp at ho
          rcases ho with rfl | rfl <;> assumption
        have hm : 7 ∈ Region.ready .any opsR listed := mem_ready.2 ⟨true_of listed 7 (by omega) hc, _, rfl, fun e he _ => ha e he⟩
        rw [hr] at hm
        cases hm
    have l8 : listed.getD 8 false = true := by
      cases hc : listed.getD 8 false with
      | true => rfl
      | false =>
        have ha : ∀ e ∈ opsR[8].after, listed.getD e.on false = true := by
          intro e he
          have ho : e.on ∈ opsR[8].after.toList.map (·.on) := List.mem_map.2 ⟨e, Array.mem_toList_iff.2 he, rfl⟩
          have hll : opsR[8].after.toList.map (·.on) = [7] := rfl
          rw [hll] at ho
          generalize e.on = j at ho
          simp at ho
          subst ho; assumption
        have hm : 8 ∈ Region.ready .any opsR listed := mem_ready.2 ⟨true_of listed 8 (by omega) hc, _, rfl, fun e he _ => ha e he⟩
        rw [hr] at hm
        cases hm
    have l9 : listed.getD 9 false = true := by
      cases hc : listed.getD 9 false with
      | true => rfl
      | false =>
        have ha : ∀ e ∈ opsR[9].after, listed.getD e.on false = true := by
          intro e he
          have ho : e.on ∈ opsR[9].after.toList.map (·.on) := List.mem_map.2 ⟨e, Array.mem_toList_iff.2 he, rfl⟩
          have hll : opsR[9].after.toList.map (·.on) = [8] := rfl
          rw [hll] at ho
          generalize e.on = j at ho
          simp at ho
          subst ho; assumption
        have hm : 9 ∈ Region.ready .any opsR listed := mem_ready.2 ⟨true_of listed 9 (by omega) hc, _, rfl, fun e he _ => ha e he⟩
        rw [hr] at hm
        cases hm
    have l10 : listed.getD 10 false = true := by
      cases hc : listed.getD 10 false with
      | true => rfl
      | false =>
        have ha : ∀ e ∈ opsR[10].after, listed.getD e.on false = true := by
          intro e he
          have ho : e.on ∈ opsR[10].after.toList.map (·.on) := List.mem_map.2 ⟨e, Array.mem_toList_iff.2 he, rfl⟩
          have hll : opsR[10].after.toList.map (·.on) = [] := rfl
          rw [hll] at ho
          generalize e.on = j at ho
          cases ho
          skip
        have hm : 10 ∈ Region.ready .any opsR listed := mem_ready.2 ⟨true_of listed 10 (by omega) hc, _, rfl, fun e he _ => ha e he⟩
        rw [hr] at hm
        cases hm
    have l11 : listed.getD 11 false = true := by
      cases hc : listed.getD 11 false with
      | true => rfl
      | false =>
        have ha : ∀ e ∈ opsR[11].after, listed.getD e.on false = true := by
          intro e he
          have ho : e.on ∈ opsR[11].after.toList.map (·.on) := List.mem_map.2 ⟨e, Array.mem_toList_iff.2 he, rfl⟩
          have hll : opsR[11].after.toList.map (·.on) = [] := rfl
          rw [hll] at ho
          generalize e.on = j at ho
          cases ho
          skip
        have hm : 11 ∈ Region.ready .any opsR listed := mem_ready.2 ⟨true_of listed 11 (by omega) hc, _, rfl, fun e he _ => ha e he⟩
        rw [hr] at hm
        cases hm
    have l12 : listed.getD 12 false = true := by
      cases hc : listed.getD 12 false with
      | true => rfl
      | false =>
        have ha : ∀ e ∈ opsR[12].after, listed.getD e.on false = true := by
          intro e he
          have ho : e.on ∈ opsR[12].after.toList.map (·.on) := List.mem_map.2 ⟨e, Array.mem_toList_iff.2 he, rfl⟩
          have hll : opsR[12].after.toList.map (·.on) = [10, 11] := rfl
          rw [hll] at ho
          generalize e.on = j at ho
          simp at ho
          rcases ho with rfl | rfl <;> assumption
        have hm : 12 ∈ Region.ready .any opsR listed := mem_ready.2 ⟨true_of listed 12 (by omega) hc, _, rfl, fun e he _ => ha e he⟩
        rw [hr] at hm
        cases hm
    have l13 : listed.getD 13 false = true := by
      cases hc : listed.getD 13 false with
      | true => rfl
      | false =>
        have ha : ∀ e ∈ opsR[13].after, listed.getD e.on false = true := by
          intro e he
          have ho : e.on ∈ opsR[13].after.toList.map (·.on) := List.mem_map.2 ⟨e, Array.mem_toList_iff.2 he, rfl⟩
          have hll : opsR[13].after.toList.map (·.on) = [12] := rfl
          rw [hll] at ho
          generalize e.on = j at ho
          simp at ho
          subst ho; assumption
        have hm : 13 ∈ Region.ready .any opsR listed := mem_ready.2 ⟨true_of listed 13 (by omega) hc, _, rfl, fun e he _ => ha e he⟩
        rw [hr] at hm
        cases hm
    have l14 : listed.getD 14 false = true := by
      cases hc : listed.getD 14 false with
      | true => rfl
      | false =>
        have ha : ∀ e ∈ opsR[14].after, listed.getD e.on false = true := by
          intro e he
          have ho : e.on ∈ opsR[14].after.toList.map (·.on) := List.mem_map.2 ⟨e, Array.mem_toList_iff.2 he, rfl⟩
          have hll : opsR[14].after.toList.map (·.on) = [13] := rfl
          rw [hll] at ho
          generalize e.on = j at ho
          simp at ho
          subst ho; assumption
        have hm : 14 ∈ Region.ready .any opsR listed := mem_ready.2 ⟨true_of listed 14 (by omega) hc, _, rfl, fun e he _ => ha e he⟩
        rw [hr] at hm
        cases hm
    have l15 : listed.getD 15 false = true := by
      cases hc : listed.getD 15 false with
      | true => rfl
      | false =>
        have ha : ∀ e ∈ opsR[15].after, listed.getD e.on false = true := by
          intro e he
          have ho : e.on ∈ opsR[15].after.toList.map (·.on) := List.mem_map.2 ⟨e, Array.mem_toList_iff.2 he, rfl⟩
          have hll : opsR[15].after.toList.map (·.on) = [9, 14] := rfl
          rw [hll] at ho
          generalize e.on = j at ho
          simp at ho
          rcases ho with rfl | rfl <;> assumption
        have hm : 15 ∈ Region.ready .any opsR listed := mem_ready.2 ⟨true_of listed 15 (by omega) hc, _, rfl, fun e he _ => ha e he⟩
        rw [hr] at hm
        cases hm
    have l16 : listed.getD 16 false = true := by
      cases hc : listed.getD 16 false with
      | true => rfl
      | false =>
        have ha : ∀ e ∈ opsR[16].after, listed.getD e.on false = true := by
          intro e he
          have ho : e.on ∈ opsR[16].after.toList.map (·.on) := List.mem_map.2 ⟨e, Array.mem_toList_iff.2 he, rfl⟩
          have hll : opsR[16].after.toList.map (·.on) = [4, 15] := rfl
          rw [hll] at ho
          generalize e.on = j at ho
          simp at ho
          rcases ho with rfl | rfl <;> assumption
        have hm : 16 ∈ Region.ready .any opsR listed := mem_ready.2 ⟨true_of listed 16 (by omega) hc, _, rfl, fun e he _ => ha e he⟩
        rw [hr] at hm
        cases hm
    have l17 : listed.getD 17 false = true := by
      cases hc : listed.getD 17 false with
      | true => rfl
      | false =>
        have ha : ∀ e ∈ opsR[17].after, listed.getD e.on false = true := by
          intro e he
          have ho : e.on ∈ opsR[17].after.toList.map (·.on) := List.mem_map.2 ⟨e, Array.mem_toList_iff.2 he, rfl⟩
          have hll : opsR[17].after.toList.map (·.on) = [0, 16] := rfl
          rw [hll] at ho
          generalize e.on = j at ho
          simp at ho
          rcases ho with rfl | rfl <;> assumption
        have hm : 17 ∈ Region.ready .any opsR listed := mem_ready.2 ⟨true_of listed 17 (by omega) hc, _, rfl, fun e he _ => ha e he⟩
        rw [hr] at hm
        cases hm
    have l18 : listed.getD 18 false = true := by
      cases hc : listed.getD 18 false with
      | true => rfl
      | false =>
        have ha : ∀ e ∈ opsR[18].after, listed.getD e.on false = true := by
          intro e he
          have ho : e.on ∈ opsR[18].after.toList.map (·.on) := List.mem_map.2 ⟨e, Array.mem_toList_iff.2 he, rfl⟩
          have hll : opsR[18].after.toList.map (·.on) = [17, 17, 0, 1, 2, 3, 4, 5, 6, 7, 8, 9, 10, 11, 12, 13, 14, 15, 16, 17] := rfl
          rw [hll] at ho
          generalize e.on = j at ho
          simp at ho
          rcases ho with rfl | rfl | rfl | rfl | rfl | rfl | rfl | rfl | rfl | rfl | rfl | rfl | rfl | rfl | rfl | rfl | rfl | rfl | rfl | rfl <;> assumption
        have hm : 18 ∈ Region.ready .any opsR listed := mem_ready.2 ⟨true_of listed 18 (by omega) hc, _, rfl, fun e he _ => ha e he⟩
        rw [hr] at hm
        cases hm
    obtain ⟨s, hs, hfd, he, hM⟩ := h
    obtain ⟨g, cap, w3, b1, b2', b3, b4, b5⟩ := hM.e2 l17
    have hq := hQ g cap w3 s b1 ((Below.refl B w1).drew.trans b2') (b5 l18)
    have hb : a = ((((((((((((((((((a0.put (some 30) (s 30)).put (some 31) (s 31)).put (some 32) (s 32)).put (some 33) (s 33)).put (some 34) (s 34)).put (some 35) (s 35)).put (some 36) (s 36)).put (some 37) (s 37)).put (some 38) (s 38)).put (some 39) (s 39)).put (some 40) (s 40)).put (some 41) (s 41)).put (some 42) (s 42)).put (some 43) (s 43)).put (some 44) (s 44)).put (some 45) (s 45)).put (some 46) (s 46)).put (some 47) (s 47)).put (some 7) (s 7) := by
      refine act_ext _ _ (by simp only [TMake.size_put]; exact hs) (by simp only [TMake.defers_put]; exact hfd) fun k => ?_
      rw [he]
      simp only [getD_put48, TMake.size_put, hsz, Nat.reduceLT]
      by_cases hk : k = 7
      · subst hk; simp
      · by_cases hk2 : 30 ≤ k ∧ k ≤ 47
        · have hc : k = 30 ∨ k = 31 ∨ k = 32 ∨ k = 33 ∨ k = 34 ∨ k = 35 ∨ k = 36 ∨ k = 37 ∨ k = 38 ∨ k = 39 ∨ k = 40 ∨ k = 41 ∨ k = 42 ∨ k = 43 ∨ k = 44 ∨ k = 45 ∨ k = 46 ∨ k = 47 := by omega
          rcases hc with rfl | rfl | rfl | rfl | rfl | rfl | rfl | rfl | rfl | rfl | rfl | rfl | rfl | rfl | rfl | rfl | rfl | rfl <;> simp
        · rw [hM.rest k hk2 hk]
          iterate 19 rw [if_neg (by omega)]
    rw [hb, b4]
    exact hq
  · refine ⟨fun k => a0.tmps.getD k undef, rfl, rfl, fun _ => rfl, ?_⟩
    have hno : ∀ j, (Array.replicate opsR.size false).getD j false = false := fun j => by
      simp only [Array.getD_eq_getD_getElem?, Array.getElem?_replicate]
      split <;> rfl
    have hn : ∀ {p : Prop} (j : Nat), (Array.replicate opsR.size false).getD j false = true → p := fun j h => by rw [hno j] at h; cases h
    exact ⟨fun _ _ _ => rfl, fun h => hn _ h, fun h => hn _ h, fun h => hn _ h, fun h => hn _ h, fun h => hn _ h, fun h => hn _ h, fun h => hn _ h, fun h => hn _ h, fun h => hn _ h, fun h => hn _ h, fun h => hn _ h, fun h => hn _ h, fun h => hn _ h, fun h => hn _ h, fun h => hn _ h, fun h => hn _ h, fun h => hn _ h, fun _ => rfl, fun _ h => hn _ h, fun h => hn _ h, fun h => hn _ h, fun h => hn _ h, fun h => hn _ h, fun h => hn _ h, fun _ => rfl⟩
end Go.Proofs.Ytlnbkljajocfoaa.TRepApp
