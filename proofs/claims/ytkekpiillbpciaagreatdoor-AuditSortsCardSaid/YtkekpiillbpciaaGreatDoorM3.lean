/- StrV; KSub: merged into one text: lemmas for the walk of the law. No condition. -/
import Derived.Test.YtkekpiillbpciaaGreatDoorProg
import Derived.Test.YtkekpiillbpciaaGreatDoorM1
import Derived.WalkKit
import Derived.Handy
import Derived.Deep.QuietTactic
import Derived.BigQuiet
/- Slices of strings that a call reads: what they hold, and that they stay. No condition. -/
namespace Go.Proofs.YtkekpiillbpciaaGreatDoor.Strs
open Go Go.RowKit

/-- slice value v reads as the strings ls -/
def Strs (w : World) (v : Value) (ls : List (List UInt8)) : Prop :=
  ∃ a c, v = .slice a ls.length c ∧ (ls.length ≤ c ∧ c ≤ maxLen) ∧ (ls ≠ [] → ∃ b off, a = some ⟨b, off, none⟩ ∧ ∀ j x, ls[j]? = some x → w.cell? ⟨b, off + j, none⟩ = some (.string ⟨x.toArray⟩))
theorem Strs.keep {w w' : World} {v : Value} {ls : List (List UInt8)} (h : Strs w v ls) (hk : ∀ p : Addr, (w.cell? p).isSome = true → w'.cell? p = w.cell? p) : Strs w' v ls := by
  obtain ⟨a, c, rfl, hm, hc⟩ := h
  refine ⟨a, c, rfl, hm, fun hne => ?_⟩
  obtain ⟨b, off, rfl, hcell⟩ := hc hne
  exact ⟨b, off, rfl, fun j x hj => by rw [hk _ (by rw [hcell j x hj]; rfl)]; exact hcell j x hj⟩
theorem Strs.below {w w' : World} {v : Value} {ls : List (List UInt8)} (h : Strs w v ls) (hb : Below w.heap.size w w') : Strs w' v ls :=
  h.keep fun p hp => hb.cell (by obtain ⟨x, hx⟩ := Option.isSome_iff_exists.1 hp; exact World.block_lt_of_cell? w p hx)
theorem Strs.drewN {w : World} {v : Value} {ls : List (List UInt8)} (h : Strs w v ls) (n : Nat) : Strs (w.drewN n) v ls := h
theorem Strs.nil (w : World) : Strs w (.slice none 0 0) [] := ⟨none, 0, rfl, ⟨Nat.le_refl _, Nat.zero_le _⟩, fun h => absurd rfl h⟩
def cellsOf (ls : List (List UInt8)) : List Value := ls.map fun x => .string ⟨x.toArray⟩
theorem cellsOf_length (ls : List (List UInt8)) : (cellsOf ls).length = ls.length := by simp [cellsOf]
theorem cellsOf_append (a b : List (List UInt8)) : cellsOf (a ++ b) = cellsOf a ++ cellsOf b := by simp [cellsOf]
/-- what a call has made reads so -/
theorem Strs.of_row {w : World} {base : Nat} {e : TypeId} {v : Value} {n : Nat} {ls : List (List UInt8)} (h : Own.Row w base e 1 v n (cellsOf ls)) : Strs w v ls := by
  have hl : ls.length = n := by have := h.1; simpa [cellsOf_length] using this
  subst hl
  rcases h.2 with ⟨rfl, h0⟩ | ⟨g, cap, cur, fz, rfl, hb, hg, hfz, hnc, hcm, hcs, htk⟩
  · have : ls = [] := List.eq_nil_of_length_eq_zero h0
    subst this
    exact Strs.nil w
  · refine ⟨_, cap, rfl, ⟨hnc, hcm⟩, fun _ => ⟨g, 0, rfl, fun j x hj => ?_⟩⟩
    rw [Nat.zero_add, Own.cell_at w g j cur e fz hg]
    have hj2 : (cellsOf ls)[j]? = some (.string ⟨x.toArray⟩) := by simp [cellsOf, hj]
    rw [← htk, List.getElem?_take] at hj2
    split at hj2
    · simpa using hj2
    · cases hj2

/-- the first strings of a slice -/
theorem Strs.take {w : World} {a : Option Addr} {n c : Nat} {ls : List (List UInt8)} (h : Strs w (.slice a n c) ls) (k : Nat) (hk : k ≤ ls.length) : Strs w (.slice a k c) (ls.take k) := by
  obtain ⟨a', c', e, hm, hc⟩ := h
  injection e with e1 e2 e3
  subst e1 e2 e3
  have hl : (ls.take k).length = k := by simp; omega
  refine ⟨a, c, by rw [hl], by omega, fun hne => ?_⟩
  obtain ⟨b, off, e, hcell⟩ := hc (by intro e; subst e; simp at hne)
  exact ⟨b, off, e, fun j x hj => hcell j x (by rw [List.getElem?_take] at hj; split at hj; exact hj; cases hj)⟩

theorem take_succ {α : Type} {l m : List α} {k : Nat} {x y : α} (h : l.take k = m.take k) (hx : l[k]? = some x) (hy : m[k]? = some y) (e : x = y) : l.take (k + 1) = m.take (k + 1) := by
  rw [List.take_add_one, List.take_add_one, h, hx, hy, e]

/-- a cell that stood still stands -/
theorem up {w w' : World} (hb : Below w.heap.size w w') {p : Addr} {v : Value} (h : w.cell? p = some v) : w'.cell? p = some v := (hb.cell (World.block_lt_of_cell? w p h)).trans h
/-- what a call that only adds memory leaves as it was -/
theorem bcell {W w1 : World} (hb : Below W.heap.size W w1) : (∀ b o, b < W.heap.size → w1.cell? ⟨b, o, none⟩ = W.cell? ⟨b, o, none⟩) ∧ (∀ b o, b < W.heap.size → w1.frozen? ⟨b, o, none⟩ = W.frozen? ⟨b, o, none⟩) :=
  ⟨fun b o h => hb.cell (p := ⟨b, o, none⟩) h, fun b o h => hb.frozen (p := ⟨b, o, none⟩) h⟩
/-- storing what is there changes nothing -/
theorem setCell_self {w : World} {b o : Nat} {v : Value} {cs : Array Value} {t : TypeId} {fz : Nat × Nat} (h : w.heap[b]? = some (.cells cs t fz)) (hv : cs[o]? = some v) : w.setCell ⟨b, o, none⟩ v = w := by
  rw [setCell_eq_setRow w b o cs t fz v h]
  have e : cs.setIfInBounds o v = cs := by
    obtain ⟨hlt, hx⟩ := Array.getElem?_eq_some_iff.1 hv
    apply Array.ext
    · simp
    · intro i h1 h2
      rw [Array.getElem_setIfInBounds]
      split
      · rename_i hio
        subst hio
        exact hx.symm
      · rfl
  rw [e]
  exact setRow_self w b cs t fz h
theorem ret_int {k : IntKind} {a b : Int} (h : a = b) : Ending.returned (.int k a) = .returned (.int k b) := by rw [h]
theorem ret_str {a b : List UInt8} (h : a = b) : Ending.returned (.string ⟨a.toArray⟩) = .returned (.string ⟨b.toArray⟩) := by rw [h]
theorem ret_bool {a b : Bool} (h : a = b) : Ending.returned (.bool a) = .returned (.bool b) := by rw [h]
end Go.Proofs.YtkekpiillbpciaaGreatDoor.Strs

/- Parts of a slice of strings: what s[h:] and s[:h] are. -/
namespace Go.Proofs.YtkekpiillbpciaaGreatDoor.KSub
open Go Go.RowKit Strs
set_option maxRecDepth 100000
theorem add_lit (g j k : Nat) : (⟨g, j, none⟩ : Addr).add k = ⟨g, j + k, none⟩ := by unfold Addr.add; split <;> simp_all
theorem size_str (W : World) : (sizeOf (Tryz.prog.elem 25)).run Tryz.prog W = .ok 1 W := by kernel_rfl
theorem elem_str : Tryz.prog.underlying 25 = some (.slice (Tryz.prog.elem 25)) := by kernel_rfl
/-- the rest of a slice of strings from a place on -/
theorem tail {w : World} {a : Option Addr} {n c : Nat} {ls : List (List UInt8)} (H : Strs w (.slice a n c) ls) (h : Nat) (hh : h ≤ ls.length) :
    ∃ a' c', (∀ W, (Instr.slice 25 (.slice a n c) (some (.int .i64 (h : Nat))) none none).run Tryz.prog W = .ok (.slice a' (n - h) c') W) ∧ ∀ w', Strs w' (.slice a n c) ls → Strs w' (.slice a' (n - h) c') (ls.drop h) := by
  obtain ⟨a0, c0, e, hm, -⟩ := H
  injection e with e1 e2 e3
  subst e1 e2 e3
  refine ⟨if c = h then a else a.map (·.add (h * 1)), c - h, fun W => ?_, fun w' H' => ?_⟩
  · rw [run_slice_l W 25 _ _ c elem_str .i64 _ (by omega) (by omega), size_str]
    simp only [Result.andThen, sliced, Int.toNat_natCast]
  · obtain ⟨a0, c0, e, -, hc⟩ := H'
    injection e with e1 e2 e3
    subst e1 e3
    refine ⟨if c = h then a else a.map (·.add (h * 1)), c - h, by rw [List.length_drop], ⟨by rw [List.length_drop]; omega, by omega⟩, fun hne => ?_⟩
    have hlt : h < ls.length := by
      apply Classical.byContradiction
      intro hn
      exact hne (List.drop_eq_nil_of_le (by omega))
    obtain ⟨b, off, rfl, hcell⟩ := hc (by intro e; subst e; simp at hlt)
    rw [if_neg (by omega)]
    refine ⟨b, off + h, by simp [add_lit], fun j x hj => ?_⟩
    rw [Nat.add_assoc]
    exact hcell (h + j) x (by rw [List.getElem?_drop] at hj; exact hj)
/-- the first strings of a slice -/
theorem head {w : World} {a : Option Addr} {n c : Nat} {ls : List (List UInt8)} (H : Strs w (.slice a n c) ls) (h : Nat) (hh : h ≤ ls.length) :
    ∃ a', (∀ W, (Instr.slice 25 (.slice a n c) none (some (.int .i64 (h : Nat))) none).run Tryz.prog W = .ok (.slice a' h c) W) ∧ ∀ w', Strs w' (.slice a n c) ls → Strs w' (.slice a' h c) (ls.take h) := by
  obtain ⟨a0, c0, e, hm, hc⟩ := H
  injection e with e1 e2 e3
  subst e1 e2 e3
  have ha : (if c = 0 then a else a.map (·.add (0 * 1))) = a := by
    split
    · rfl
    · cases a with
      | none => rfl
      | some p =>
        obtain ⟨b, off, s⟩ := p
        simp [Addr.add]
  refine ⟨a, fun W => ?_, fun w' H' => H'.take h hh⟩
  rw [run_slice_h W 25 _ _ c elem_str .i64 _ (by omega) (by omega), size_str]
  simp only [Result.andThen, sliced, Int.toNat_natCast, ha, Nat.sub_zero]
end Go.Proofs.YtkekpiillbpciaaGreatDoor.KSub
