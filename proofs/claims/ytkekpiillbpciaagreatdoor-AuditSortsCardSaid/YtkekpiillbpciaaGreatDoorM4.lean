/- KeyVals; KKey; KLines: merged into one text: lemmas for the walk of the law. No condition. -/
import Derived.Test.YtkekpiillbpciaaGreatDoorM2
import Derived.Test.YtkekpiillbpciaaGreatDoorM3
import Derived.ProofKit
import Derived.OpenShut
import Derived.ChangeArms
import Derived.Deep.SlicePairs
import Derived.SliceStrings
/- The values of a sort specification: how its keys lie in memory, that they stay, and what comes in. No condition. -/
namespace Go.Proofs.YtkekpiillbpciaaGreatDoor.KeyVals
open Go Go.ChangeShapes Go.WideShapes Go.ChangeAt Go.RowKit KeyMath
set_option maxRecDepth 100000

def keyCells (k : Key) : List Value := [.int .i64 k.ff, .int .i64 k.fc, .int .i64 k.tf, .int .i64 k.tc, .int .i64 k.fl]
def keyVal (k : Key) : Value := .agg #[.int .i64 k.ff, .int .i64 k.fc, .int .i64 k.tf, .int .i64 k.tc, .int .i64 k.fl]
/-- slice value v reads as the keys ks -/
def Keys (w : World) (v : Value) (ks : List Key) : Prop :=
  ∃ a c, v = .slice a ks.length c ∧ (ks.length ≤ c ∧ c ≤ maxLen) ∧ (∀ k ∈ ks, k.fits) ∧ (ks ≠ [] → ∃ b off, a = some ⟨b, off, none⟩ ∧ ∀ j k, ks[j]? = some k → ∀ i u, (keyCells k)[i]? = some u → w.cell? ⟨b, off + 5 * j + i, none⟩ = some u)
theorem Keys.keep {w w' : World} {v : Value} {ks : List Key} (h : Keys w v ks) (hk : ∀ p : Addr, (w.cell? p).isSome = true → w'.cell? p = w.cell? p) : Keys w' v ks := by
  obtain ⟨a, c, rfl, hm, hf, hc⟩ := h
  refine ⟨a, c, rfl, hm, hf, fun hne => ?_⟩
  obtain ⟨b, off, rfl, hcell⟩ := hc hne
  exact ⟨b, off, rfl, fun j k hj i u hu => by rw [hk _ (by rw [hcell j k hj i u hu]; rfl)]; exact hcell j k hj i u hu⟩
theorem Keys.below {w w' : World} {v : Value} {ks : List Key} (h : Keys w v ks) (hb : Below w.heap.size w w') : Keys w' v ks :=
  h.keep fun p hp => hb.cell (by obtain ⟨x, hx⟩ := Option.isSome_iff_exists.1 hp; exact World.block_lt_of_cell? w p hx)
theorem Keys.drewN {w : World} {v : Value} {ks : List Key} (h : Keys w v ks) (n : Nat) : Keys (w.drewN n) v ks := h
theorem Keys.nil (w : World) : Keys w (.slice none 0 0) [] := ⟨none, 0, rfl, ⟨Nat.le_refl _, Nat.zero_le _⟩, fun _ h => by simp at h, fun h => absurd rfl h⟩
def specVal (sv : Value) (p : SortSpec) : Value := .agg #[sv, .int .i64 p.sep, .int .i64 p.fl, .bool p.uniq, .bool p.stable]

section
variable {H : Type} {enc : TypeId × Value → H} {W : World}
theorem key_of {n : Nat} {cs : List Value} {x : DataW H × List MemPlace} (h : DataW.trod enc Tryz.prog W 0 (fun _ => true) true n 81 cs = some x) : ∃ k : Key, cs = keyCells k ∧ k.fits := by
  obtain ⟨xs, m, _, _, hlen, hxl, hg⟩ := DataW.trod_struct Tryz.underlying81 h
  have hl5 : cs.length = 5 := hlen.trans (by kernel_rfl)
  have hx5 : xs.length = 5 := hxl
  have h0 := hg 0 _ rfl
  have h1 := hg 1 _ rfl
  have h2 := hg 2 _ rfl
  have h3 := hg 3 _ rfl
  have h4 := hg 4 _ rfl
  rw [List.getElem?_eq_getElem (by omega)] at h0 h1 h2 h3 h4
  obtain ⟨z0, e0, _, w0⟩ := DataW.trod_int Tryz.underlying3 h0
  obtain ⟨z1, e1, _, w1⟩ := DataW.trod_int Tryz.underlying3 h1
  obtain ⟨z2, e2, _, w2⟩ := DataW.trod_int Tryz.underlying3 h2
  obtain ⟨z3, e3, _, w3⟩ := DataW.trod_int Tryz.underlying3 h3
  obtain ⟨z4, e4, _, w4⟩ := DataW.trod_int Tryz.underlying3 h4
  match cs, hl5 with
  | [c0, c1, c2, c3, c4], _ =>
    simp [show Tryz.prog.cellsOf 3 = 1 from by kernel_rfl] at e0 e1 e2 e3 e4
    subst e0 e1 e2 e3 e4
    exact ⟨⟨z0, z1, z2, z3, z4⟩, rfl, bounds_i64 w0, bounds_i64 w1, bounds_i64 w2, bounds_i64 w3, bounds_i64 w4⟩
theorem keys_of {n : Nat} {cs : List Value} {x : DataW H × List MemPlace} (h : DataW.trod enc Tryz.prog W 0 (fun _ => true) true n 22 cs = some x) : ∃ v ks, cs = [v] ∧ Keys W v ks := by
  rcases Go.Deep.open_slice Tryz.underlying22 h with ⟨hcs, _⟩ | ⟨a, len, cap, m, n, D, Pl, hcs, _, hl, hm, hmm, _, hq⟩
  · exact ⟨_, [], hcs, Keys.nil W⟩
  · simp only [if_true] at hmm
    subst hmm
    have hq' : ∀ i, i < m → ∃ k : Key, k.fits ∧ ∀ j u, (keyCells k)[j]? = some u → W.cell? ((a.add (i * 5)).add j) = some u := by
      intro i hi
      obtain ⟨cs', h1, h2⟩ := hq i hi
      rw [show Tryz.prog.cellsOf 81 = 5 from by kernel_rfl] at h1
      obtain ⟨k, rfl, hk⟩ := key_of h2
      obtain ⟨_, hlen, hcell⟩ := World.cells?_some h1
      exact ⟨k, hk, fun j u hj => by rw [hcell j (by have := (List.getElem?_eq_some_iff.1 hj).1; omega)]; exact hj⟩
    obtain ⟨f, hf⟩ := Go.Deep.choose_lt hq'
    have hlen : ((List.range len).map f).length = len := by simp
    refine ⟨_, (List.range len).map f, hcs, some a, m, by rw [hlen], ⟨by rw [hlen]; exact hl, hm⟩, ?_, fun hne => ?_⟩
    · intro k hk
      obtain ⟨i, hi, rfl⟩ := List.mem_map.1 hk
      exact (hf i (by have := List.mem_range.1 hi; omega)).1
    · have hpos : 0 < len := by
        rcases Nat.eq_zero_or_pos len with h0 | h0
        · subst h0; simp at hne
        · exact h0
      obtain ⟨b, off, spot⟩ := a
      have h0 := (hf 0 (by omega)).2 0 _ rfl
      have hspot : spot = none := by simpa [Addr.add] using World.cell?_spot h0
      subst hspot
      refine ⟨b, off, rfl, fun j y hj i u hu => ?_⟩
      have hjl : j < len := by
        have := (List.getElem?_eq_some_iff.1 hj).1
        omega
      rw [List.getElem?_map, List.getElem?_range hjl] at hj
      simp only [Option.map_some, Option.some.injEq] at hj
      subst hj
      have hadd : ∀ o k, (⟨b, o, none⟩ : Addr).add k = ⟨b, o + k, none⟩ := fun o k => by unfold Addr.add; split <;> simp_all
      have := (hf j (by omega)).2 i u hu
      rw [hadd, hadd, Nat.mul_comm] at this
      exact this
/-- a specification that came in -/
theorem open_spec {r : Reach} {b0 : Nat} {v : Value} {d : DataW H} {p : List MemPlace} (hv : Value.okWide Tryz.prog W r b0 24 v) (h : DataW.Trod enc Tryz.prog W 0 (fun _ => true) true 24 v d p) :
    ∃ sv sp, v = specVal sv sp ∧ Keys W sv sp.keys ∧ W64 sp.sep ∧ W64 sp.fl := by
  obtain ⟨cs, rfl, hsz⟩ := okWide_struct Tryz.underlying24 hv
  obtain ⟨fuel, hf⟩ := h
  obtain ⟨xs, m, _, _, hlen, hxl, hg⟩ := DataW.trod_struct Tryz.underlying24 hf
  have hx5 : xs.length = 5 := hxl
  have h0 := hg 0 _ rfl
  have h1 := hg 1 _ rfl
  have h2 := hg 2 _ rfl
  have h3 := hg 3 _ rfl
  have h4 := hg 4 _ rfl
  rw [List.getElem?_eq_getElem (by omega)] at h0 h1 h2 h3 h4
  obtain ⟨sv, ks, e0, hk⟩ := keys_of h0
  obtain ⟨z1, e1, _, w1⟩ := DataW.trod_int Tryz.underlying3 h1
  obtain ⟨z2, e2, _, w2⟩ := DataW.trod_int Tryz.underlying3 h2
  obtain ⟨z3, e3, _⟩ := DataW.trod_bool Tryz.underlying4 h3
  obtain ⟨z4, e4, _⟩ := DataW.trod_bool Tryz.underlying4 h4
  have hc5 : cs.size = 5 := hsz.trans (by kernel_rfl)
  obtain ⟨l⟩ := cs
  match l, hc5 with
  | [c0, c1, c2, c3, c4], _ =>
    simp [Value.cells, show Tryz.prog.cellsOf 3 = 1 from by kernel_rfl, show Tryz.prog.cellsOf 22 = 1 from by kernel_rfl, show Tryz.prog.cellsOf 4 = 1 from by kernel_rfl] at e0 e1 e2 e3 e4
    subst e0 e1 e2 e3 e4
    exact ⟨_, ⟨ks, z1, z2, z3, z4⟩, rfl, hk, bounds_i64 w1, bounds_i64 w2⟩
end
end Go.Proofs.YtkekpiillbpciaaGreatDoor.KeyVals

/- A key of a sort specification in a block of its own. -/
namespace Go.Proofs.YtkekpiillbpciaaGreatDoor.KKey
open Go Go.RowKit KeyMath Strs
set_option maxRecDepth 100000
/-- a key in a block of its own -/
def KBox (w : World) (b : Nat) (k : Key) : Prop := w.heap[b]? = some (.cells #[.int .i64 k.ff, .int .i64 k.fc, .int .i64 k.tf, .int .i64 k.tc, .int .i64 k.fl] 81 (0, 0))
theorem KBox.cells {w : World} {b : Nat} {k : Key} (h : KBox w b k) : w.cell? ⟨b, 0, none⟩ = some (.int .i64 k.ff) ∧ w.cell? ⟨b, 1, none⟩ = some (.int .i64 k.fc) ∧ w.cell? ⟨b, 2, none⟩ = some (.int .i64 k.tf) ∧ w.cell? ⟨b, 3, none⟩ = some (.int .i64 k.tc) ∧ w.cell? ⟨b, 4, none⟩ = some (.int .i64 k.fl) := by
  refine ⟨?_, ?_, ?_, ?_, ?_⟩ <;> (rw [cell_of_row w b _ _ _ _ h]; rfl)
theorem KBox.lt {w : World} {b : Nat} {k : Key} (h : KBox w b k) : b < w.heap.size := (Array.getElem?_eq_some_iff.1 h).1
theorem KBox.keep {w w' : World} {b : Nat} {k : Key} (h : KBox w b k) (hk : w'.heap[b]? = w.heap[b]?) : KBox w' b k := hk.trans h
theorem KBox.frozen {w : World} {b : Nat} {k : Key} (h : KBox w b k) {o : Nat} : w.frozen? ⟨b, o, none⟩ = false := by
  unfold KBox at h
  simp [World.frozen?, h]
theorem KBox.flag {w : World} {b : Nat} {k : Key} (h : KBox w b k) (z : Int) : KBox (w.setCell ⟨b, 4, none⟩ (.int .i64 z)) b { k with fl := z } := by
  unfold KBox at *
  rw [setCell_eq_setRow w b 4 _ _ _ _ h]
  simpa using setRow_heap w b _ _ _ _ h
end Go.Proofs.YtkekpiillbpciaaGreatDoor.KKey

/- The lines of a sort before and after, as they come in. No condition. -/
namespace Go.Proofs.YtkekpiillbpciaaGreatDoor.KLines
open Go Go.ChangeShapes Go.WideShapes Go.ChangeAt Go.RowKit Strs
set_option maxRecDepth 100000
section
variable {H : Type} {enc : TypeId × Value → H} {W : World}
theorem strs_of {n : Nat} {cs : List Value} {x : DataW H × List MemPlace} (h : DataW.trod enc Tryz.prog W 0 (fun _ => true) true n 25 cs = some x) : ∃ v ls, cs = [v] ∧ Strs W v ls := by
  rcases open_strings Tryz.underlying25 Tryz.underlying9 (by kernel_rfl) h with ⟨hcs, hx⟩ | ⟨x, l, c, ss, hcs, _, hl, hm, hz, hx, hcell, hws⟩
  · exact ⟨_, [], hcs, Strs.nil W⟩
  · have hz' : ss.length = c := by simpa using hz
    have hlen : ((ss.take l).map fun s => s.data.toList).length = l := by simp; omega
    refine ⟨_, (ss.take l).map fun s => s.data.toList, hcs, some x, c, by rw [hlen], ⟨by omega, hm⟩, fun hne => ?_⟩
    have hpos : 0 < l := by
      rcases Nat.eq_zero_or_pos l with h0 | h0
      · subst h0; simp at hne
      · exact h0
    obtain ⟨b, off, spot⟩ := x
    have h0 := hcell 0 (by omega)
    have hspot : spot = none := by simpa [Addr.add] using World.cell?_spot h0
    subst hspot
    refine ⟨b, off, rfl, fun j y hj => ?_⟩
    have hjl : j < l := by
      have := (List.getElem?_eq_some_iff.1 hj).1
      omega
    have hc := hcell j (by omega)
    have hadd : (⟨b, off, none⟩ : Addr).add j = ⟨b, off + j, none⟩ := by unfold Addr.add; split <;> simp_all
    rw [hadd] at hc
    rw [hc]
    rw [List.getElem?_map, List.getElem?_take] at hj
    simp only [if_pos hjl] at hj
    cases hs : ss[j]? with
    | none => rw [hs] at hj; cases hj
    | some s =>
      rw [hs] at hj
      simp only [Option.map_some, Option.some.injEq] at hj
      subst hj
      have : ss.getD j ByteArray.empty = s := by rw [List.getD_eq_getElem?_getD, hs]; rfl
      first
        | rw [this]
        | simp [hs]
/-- lines that came in -/
theorem open_lines {r : Reach} {b0 : Nat} {v : Value} {d : DataW H} {p : List MemPlace} (hv : Value.okWide Tryz.prog W r b0 27 v) (h : DataW.Trod enc Tryz.prog W 0 (fun _ => true) true 27 v d p) :
    ∃ a b xs ys, v = .agg #[a, b] ∧ Strs W a xs ∧ Strs W b ys := by
  obtain ⟨cs, rfl, hsz⟩ := okWide_struct Tryz.underlying27 hv
  obtain ⟨fuel, hf⟩ := h
  obtain ⟨xs, m, _, _, hlen, hxl, hg⟩ := DataW.trod_struct Tryz.underlying27 hf
  have hx2 : xs.length = 2 := hxl
  have h0 := hg 0 _ rfl
  have h1 := hg 1 _ rfl
  rw [List.getElem?_eq_getElem (by omega)] at h0 h1
  obtain ⟨a, la, e0, ha⟩ := strs_of h0
  obtain ⟨b, lb, e1, hb⟩ := strs_of h1
  have hc2 : cs.size = 2 := hsz.trans (by kernel_rfl)
  obtain ⟨l⟩ := cs
  match l, hc2 with
  | [c0, c1], _ =>
    simp [Value.cells, show Tryz.prog.cellsOf 25 = 1 from by kernel_rfl] at e0 e1
    subst e0 e1
    exact ⟨_, _, la, lb, rfl, ha, hb⟩
end
end Go.Proofs.YtkekpiillbpciaaGreatDoor.KLines
