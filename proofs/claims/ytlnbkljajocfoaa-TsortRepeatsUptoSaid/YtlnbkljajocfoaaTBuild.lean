/- The sorter's memory while its lists of places are built. -/
import Derived.Test.YtlnbkljajocfoaaTFam
namespace Go.Proofs.Ytlnbkljajocfoaa.TBuild
open Go Go.RowKit Topo TWords TGraph TRead TSorter TSlices TReverse TClone TCycle TFam

/-- where the parts lie -/
structure Pl where
  sb : Nat
  ib : Nat
  ob : Nat
  nb : Nat
  db : Nat
  mb : Nat
  eb : Nat
  B : Nat
/-- the memory of a sorter whose lists are being built -/
structure Bd (L : Pl) (n : Nat) (p4 v5 : Value) (E : Edges) (val : Bool → Nat → Value) (lst : Bool → Nat → List Nat) (nd : Nat → Nat) (w : World) : Prop where
  srt : w.heap[L.sb]? = some (.cells #[p4, v5, .slice (some ⟨L.ib, 0, none⟩) n n, .slice (some ⟨L.ob, 0, none⟩) n n, .slice (some ⟨L.nb, 0, none⟩) n n, .slice (some ⟨L.db, 0, none⟩) n n, .map (some L.mb)] 55 (0, 0))
  fam : Fam L.B n val lst w
  ics : ∀ j, j < n → w.cell? ⟨L.ib, j, none⟩ = some (val false j) ∧ w.frozen? ⟨L.ib, j, none⟩ = false
  ocs : ∀ j, j < n → w.cell? ⟨L.ob, j, none⟩ = some (val true j) ∧ w.frozen? ⟨L.ob, j, none⟩ = false
  ncs : ∀ j, j < n → w.cell? ⟨L.nb, j, none⟩ = some (.int .i64 (nd j : Nat)) ∧ w.frozen? ⟨L.nb, j, none⟩ = false
  dcs : ∀ j, j < n → w.cell? ⟨L.db, j, none⟩ = some (.bool false) ∧ w.frozen? ⟨L.db, j, none⟩ = false
  edge : ∀ (i : Nat) (e : Nat × Nat), E[i]? = some e → w.cell? ⟨L.eb, i * 3, none⟩ = some (.int .i64 (e.1 : Nat)) ∧ w.cell? ⟨L.eb, i * 3 + 1, none⟩ = some (.int .i64 (e.2 : Nat)) ∧ w.cell? ⟨L.eb, i * 3 + 2, none⟩ = some (.bool false) ∧ w.frozen? ⟨L.eb, i * 3 + 2, none⟩ = false
  map : w.heap[L.mb]? = some (.map #[] 0)
  lt : L.sb < L.B ∧ L.ib < L.B ∧ L.ob < L.B ∧ L.nb < L.B ∧ L.db < L.B ∧ L.mb < L.B ∧ L.eb < L.B
  apart : L.ib ≠ L.ob ∧ L.ib ≠ L.nb ∧ L.ib ≠ L.db ∧ L.ib ≠ L.mb ∧ L.ib ≠ L.sb ∧ L.ib ≠ L.eb ∧ L.ob ≠ L.nb ∧ L.ob ≠ L.db ∧ L.ob ≠ L.mb ∧ L.ob ≠ L.sb ∧ L.ob ≠ L.eb ∧ L.nb ≠ L.db ∧ L.nb ≠ L.mb ∧ L.nb ≠ L.sb ∧ L.nb ≠ L.eb
  room : L.B ≤ w.heap.size
section
variable {L : Pl} {n : Nat} {p4 v5 : Value} {E : Edges} {val : Bool → Nat → Value} {lst : Bool → Nat → List Nat} {nd : Nat → Nat} {w : World}
/-- blocks below B are as they were, and the rows -/
theorem Bd.keep {w' : World} (h : Bd L n p4 v5 E val lst nd w) (hs : w.heap.size ≤ w'.heap.size) (hk : ∀ k, k < w.heap.size → w'.heap[k]? = w.heap[k]?) : Bd L n p4 v5 E val lst nd w' := by
  obtain ⟨t1, t2, t3, t4, t5, t6, t7⟩ := h.lt
  have hr := h.room
  have hc : ∀ b j, b < L.B → w'.cell? ⟨b, j, none⟩ = w.cell? ⟨b, j, none⟩ := fun b j hb => World.cell?_of_block (hk b (by omega))
  have hf : ∀ b j, b < L.B → w'.frozen? ⟨b, j, none⟩ = w.frozen? ⟨b, j, none⟩ := fun b j hb => World.frozen?_of_block (hk b (by omega))
  refine ⟨(hk _ (by omega)).trans h.srt, h.fam.keep fun k _ hk2 => hk k hk2, fun j hj => by rw [hc _ _ t2, hf _ _ t2]; exact h.ics j hj, fun j hj => by rw [hc _ _ t3, hf _ _ t3]; exact h.ocs j hj, fun j hj => by rw [hc _ _ t4, hf _ _ t4]; exact h.ncs j hj, fun j hj => by rw [hc _ _ t5, hf _ _ t5]; exact h.dcs j hj, fun i e he => by rw [hc _ _ t7, hc _ _ t7, hc _ _ t7, hf _ _ t7]; exact h.edge i e he, (hk _ (by omega)).trans h.map, h.lt, h.apart, by omega⟩
/-- a count is written -/
theorem Bd.count (h : Bd L n p4 v5 E val lst nd w) (j : Nat) (z : Nat) : Bd L n p4 v5 E val lst (fun k => if k = j then z else nd k) (w.setCell ⟨L.nb, j, none⟩ (.int .i64 (z : Nat))) := by
  obtain ⟨t1, t2, t3, t4, t5, t6, t7⟩ := h.lt
  obtain ⟨a1, a2, a3, a4, a5, a6, a7, a8, a9, a10, a11, a12, a13, a14, a15⟩ := h.apart
  have hk : ∀ k, k ≠ L.nb → (w.setCell ⟨L.nb, j, none⟩ (.int .i64 (z : Nat))).heap[k]? = w.heap[k]? := fun k hk => Below.heap_setCell _ _ _ _ hk
  have hc : ∀ b k, b ≠ L.nb → (w.setCell ⟨L.nb, j, none⟩ (.int .i64 (z : Nat))).cell? ⟨b, k, none⟩ = w.cell? ⟨b, k, none⟩ := fun b k hb => World.cell?_of_block (hk b hb)
  refine ⟨(hk _ (Ne.symm a14)).trans h.srt, h.fam.keep fun k hk2 _ => hk k (by omega), fun k hkn => by rw [hc _ _ a2, World.frozen?_setCell]; exact h.ics k hkn, fun k hkn => by rw [hc _ _ a7, World.frozen?_setCell]; exact h.ocs k hkn, fun k hkn => ?_, fun k hkn => by rw [hc _ _ (Ne.symm a12), World.frozen?_setCell]; exact h.dcs k hkn, fun i e he => by rw [hc _ _ (Ne.symm a15), hc _ _ (Ne.symm a15), hc _ _ (Ne.symm a15), World.frozen?_setCell]; exact h.edge i e he, (hk _ (Ne.symm a13)).trans h.map, h.lt, h.apart, by simpa [World.setCell] using h.room⟩
  obtain ⟨k0, kf⟩ := h.ncs k hkn
  refine ⟨?_, by rw [World.frozen?_setCell]; exact kf⟩
  by_cases e : k = j
  · subst e; rw [World.cell?_setCell_same _ _ _ k0, if_pos rfl]
  · rw [World.cell?_setCell_other _ _ _ _ (by simp <;> omega), if_neg e]; exact k0
/-- a place is appended to a list of the constraints that end at an element -/
theorem Bd.into {w1 : World} {j g cap H i : Nat} (h : Bd L n p4 v5 E val lst nd w) (hj : j < n) (hs : w.heap.size ≤ w1.heap.size)
    (hown : w1.ownsRow L.B 3 1 (.slice (some ⟨g, 0, none⟩) ((lst false j).length + 1) cap) ((lst false j).length + 1) (icells (lst false j) ++ [.int .i64 (i : Nat)]))
    (hk : ∀ k, k < w.heap.size → (val false j).ownBlock ≠ some k → w1.heap[k]? = w.heap[k]?) (hat : (val false j).ownBlock = some g ∨ g = H) (hH : w.heap.size ≤ H) :
    Bd L n p4 v5 E (upd val false j (.slice (some ⟨g, 0, none⟩) ((lst false j).length + 1) cap)) (upd lst false j (lst false j ++ [i])) nd (w1.setCell ⟨L.ib, j, none⟩ (.slice (some ⟨g, 0, none⟩) ((lst false j).length + 1) cap)) := by
  obtain ⟨t1, t2, t3, t4, t5, t6, t7⟩ := h.lt
  obtain ⟨a1, a2, a3, a4, a5, a6, a7, a8, a9, a10, a11, a12, a13, a14, a15⟩ := h.apart
  have hr := h.room
  have hB : ∀ k, k < L.B → w1.heap[k]? = w.heap[k]? := fun k hkb => hk k (by omega) (fun e => by have := (h.fam.lt false j hj k e).1; omega)
  have hc : ∀ b k, b < L.B → b ≠ L.ib → (w1.setCell ⟨L.ib, j, none⟩ (.slice (some ⟨g, 0, none⟩) ((lst false j).length + 1) cap)).cell? ⟨b, k, none⟩ = w.cell? ⟨b, k, none⟩ := fun b k hb hne => World.cell?_of_block ((Below.heap_setCell _ _ _ _ hne).trans (hB b hb))
  have hf : ∀ b k, b < L.B → (w1.setCell ⟨L.ib, j, none⟩ (.slice (some ⟨g, 0, none⟩) ((lst false j).length + 1) cap)).frozen? ⟨b, k, none⟩ = w.frozen? ⟨b, k, none⟩ := fun b k hb => (World.frozen?_setCell _ _ _ _).trans (World.frozen?_of_block (hB b hb))
  refine ⟨((Below.heap_setCell _ _ _ _ (Ne.symm a5)).trans (hB _ t1)).trans h.srt, (h.fam.append hj hown hk hat hH).keep fun k hk2 _ => Below.heap_setCell _ _ _ _ (by show k ≠ L.ib; omega), fun k hkn => ?_, fun k hkn => by rw [hc _ _ t3 (Ne.symm a1), hf _ _ t3, upd_other _ _ _ _ _ _ (by simp)]; exact h.ocs k hkn, fun k hkn => by rw [hc _ _ t4 (Ne.symm a2), hf _ _ t4]; exact h.ncs k hkn, fun k hkn => by rw [hc _ _ t5 (Ne.symm a3), hf _ _ t5]; exact h.dcs k hkn, fun q e he => by rw [hc _ _ t7 (Ne.symm a6), hc _ _ t7 (Ne.symm a6), hc _ _ t7 (Ne.symm a6), hf _ _ t7]; exact h.edge q e he, ((Below.heap_setCell _ _ _ _ (Ne.symm a4)).trans (hB _ t6)).trans h.map, h.lt, h.apart, by simp [World.setCell]; omega⟩
  obtain ⟨k0, kf⟩ := h.ics k hkn
  have k1 : w1.cell? ⟨L.ib, k, none⟩ = some (val false k) := (World.cell?_of_block (hB _ t2)).trans k0
  refine ⟨?_, by rw [hf _ _ t2]; exact kf⟩
  by_cases e : k = j
  · subst e; rw [World.cell?_setCell_same _ _ _ k1, upd_same]
  · rw [World.cell?_setCell_other _ _ _ _ (by simp <;> omega), upd_other _ _ _ _ _ _ (by simp [e])]; exact k1
/-- a place is appended to a list of the constraints that begin at an element -/
theorem Bd.outof {w1 : World} {j g cap H i : Nat} (h : Bd L n p4 v5 E val lst nd w) (hj : j < n) (hs : w.heap.size ≤ w1.heap.size)
    (hown : w1.ownsRow L.B 3 1 (.slice (some ⟨g, 0, none⟩) ((lst true j).length + 1) cap) ((lst true j).length + 1) (icells (lst true j) ++ [.int .i64 (i : Nat)]))
    (hk : ∀ k, k < w.heap.size → (val true j).ownBlock ≠ some k → w1.heap[k]? = w.heap[k]?) (hat : (val true j).ownBlock = some g ∨ g = H) (hH : w.heap.size ≤ H) :
    Bd L n p4 v5 E (upd val true j (.slice (some ⟨g, 0, none⟩) ((lst true j).length + 1) cap)) (upd lst true j (lst true j ++ [i])) nd (w1.setCell ⟨L.ob, j, none⟩ (.slice (some ⟨g, 0, none⟩) ((lst true j).length + 1) cap)) := by
  obtain ⟨t1, t2, t3, t4, t5, t6, t7⟩ := h.lt
  obtain ⟨a1, a2, a3, a4, a5, a6, a7, a8, a9, a10, a11, a12, a13, a14, a15⟩ := h.apart
  have hr := h.room
  have hB : ∀ k, k < L.B → w1.heap[k]? = w.heap[k]? := fun k hkb => hk k (by omega) (fun e => by have := (h.fam.lt true j hj k e).1; omega)
  have hc : ∀ b k, b < L.B → b ≠ L.ob → (w1.setCell ⟨L.ob, j, none⟩ (.slice (some ⟨g, 0, none⟩) ((lst true j).length + 1) cap)).cell? ⟨b, k, none⟩ = w.cell? ⟨b, k, none⟩ := fun b k hb hne => World.cell?_of_block ((Below.heap_setCell _ _ _ _ hne).trans (hB b hb))
  have hf : ∀ b k, b < L.B → (w1.setCell ⟨L.ob, j, none⟩ (.slice (some ⟨g, 0, none⟩) ((lst true j).length + 1) cap)).frozen? ⟨b, k, none⟩ = w.frozen? ⟨b, k, none⟩ := fun b k hb => (World.frozen?_setCell _ _ _ _).trans (World.frozen?_of_block (hB b hb))
  refine ⟨((Below.heap_setCell _ _ _ _ (Ne.symm a10)).trans (hB _ t1)).trans h.srt, (h.fam.append hj hown hk hat hH).keep fun k hk2 _ => Below.heap_setCell _ _ _ _ (by show k ≠ L.ob; omega), fun k hkn => by rw [hc _ _ t2 a1, hf _ _ t2, upd_other _ _ _ _ _ _ (by simp)]; exact h.ics k hkn, fun k hkn => ?_, fun k hkn => by rw [hc _ _ t4 (Ne.symm a7), hf _ _ t4]; exact h.ncs k hkn, fun k hkn => by rw [hc _ _ t5 (Ne.symm a8), hf _ _ t5]; exact h.dcs k hkn, fun q e he => by rw [hc _ _ t7 (Ne.symm a11), hc _ _ t7 (Ne.symm a11), hc _ _ t7 (Ne.symm a11), hf _ _ t7]; exact h.edge q e he, ((Below.heap_setCell _ _ _ _ (Ne.symm a9)).trans (hB _ t6)).trans h.map, h.lt, h.apart, by simp [World.setCell]; omega⟩
  obtain ⟨k0, kf⟩ := h.ocs k hkn
  have k1 : w1.cell? ⟨L.ob, k, none⟩ = some (val true k) := (World.cell?_of_block (hB _ t3)).trans k0
  refine ⟨?_, by rw [hf _ _ t3]; exact kf⟩
  by_cases e : k = j
  · subst e; rw [World.cell?_setCell_same _ _ _ k1, upd_same]
  · rw [World.cell?_setCell_other _ _ _ _ (by simp <;> omega), upd_other _ _ _ _ _ _ (by simp [e])]; exact k1
end
end Go.Proofs.Ytlnbkljajocfoaa.TBuild
