/- The sorter's memory, and (*sorter).remove and (*sorter).before on it. -/
import Derived.Test.YtlnbkljajocfoaaTRead
import Derived.Test.YtlnbkljajocfoaaTopoMath
import Derived.RegionTactic
import Derived.BigRegion
namespace Go.Proofs.Ytlnbkljajocfoaa.TSorter
open Go Go.RowKit Go.Maps Go.WideMaps Strs TWords TPairs TGraph TRead Topo

/-- slice value v reads as numbers, in a block from lim on -/
def Ints (w : World) (lim : Nat) (v : Value) (xs : List Nat) : Prop :=
  ∃ a c, v = .slice a xs.length c ∧ (xs.length ≤ c ∧ c ≤ maxLen) ∧ (xs ≠ [] → ∃ b, a = some ⟨b, 0, none⟩ ∧ lim ≤ b ∧ b < w.heap.size ∧ ∀ j x, xs[j]? = some x → w.cell? ⟨b, j, none⟩ = some (.int .i64 (x : Nat)))
theorem Ints.keep {w w' : World} {lim : Nat} {v : Value} {xs : List Nat} (h : Ints w lim v xs) (hs : w.heap.size ≤ w'.heap.size) (hk : ∀ b j, lim ≤ b → b < w.heap.size → w'.cell? ⟨b, j, none⟩ = w.cell? ⟨b, j, none⟩) : Ints w' lim v xs := by
  obtain ⟨a, c, rfl, hm, hc⟩ := h
  refine ⟨a, c, rfl, hm, fun hne => ?_⟩
  obtain ⟨b, rfl, hl, hb, hcell⟩ := hc hne
  exact ⟨b, rfl, hl, by omega, fun j x hj => by rw [hk b j hl hb]; exact hcell j x hj⟩
/-- where the parts of a sorter lie: the struct, the graph, the constraints, the four slices, the map; the lists of places lie from lim on -/
structure Lay where
  sb : Nat
  g : Nat
  eb : Nat
  ib : Nat
  ob : Nat
  nb : Nat
  db : Nat
  mb : Nat
  lim : Nat
  ea : Option Addr
  ec : Nat
  nc : Nat
/-- the sorter's memory: n elements, constraints E, which are gone, which elements are done -/
structure Sr (L : Lay) (E : Edges) (n : Nat) (gone done : Nat → Bool) (w : World) : Prop where
  c0 : w.cell? ⟨L.sb, 0, none⟩ = some (.pointer (some ⟨L.g, 0, none⟩))
  c6 : w.cell? ⟨L.sb, 6, none⟩ = some (.map (some L.mb))
  mapart : L.mb ≠ L.sb ∧ L.mb ≠ L.eb ∧ L.mb ≠ L.ib ∧ L.mb ≠ L.ob ∧ L.mb ≠ L.nb ∧ L.mb ≠ L.db
  sbl : L.sb < L.lim ∧ L.ib < L.lim ∧ L.ob < L.lim
  c1 : w.cell? ⟨L.sb, 1, none⟩ = some (.slice L.ea E.length L.ec)
  c2 : w.cell? ⟨L.sb, 2, none⟩ = some (.slice (some ⟨L.ib, 0, none⟩) n L.nc)
  c3 : w.cell? ⟨L.sb, 3, none⟩ = some (.slice (some ⟨L.ob, 0, none⟩) n L.nc)
  c4 : w.cell? ⟨L.sb, 4, none⟩ = some (.slice (some ⟨L.nb, 0, none⟩) n L.nc)
  c5 : w.cell? ⟨L.sb, 5, none⟩ = some (.slice (some ⟨L.db, 0, none⟩) n L.nc)
  bound : n ≤ L.nc ∧ L.nc ≤ maxLen ∧ E.length ≤ L.ec ∧ L.ec ≤ maxLen
  ends : ∀ (i : Nat) (e : Nat × Nat), E[i]? = some e → e.1 < n ∧ e.2 < n
  ea : E ≠ [] → L.ea = some ⟨L.eb, 0, none⟩
  edge : ∀ (i : Nat) (e : Nat × Nat), E[i]? = some e → w.cell? ⟨L.eb, i * 3, none⟩ = some (.int .i64 (e.1 : Nat)) ∧ w.cell? ⟨L.eb, i * 3 + 1, none⟩ = some (.int .i64 (e.2 : Nat)) ∧ w.cell? ⟨L.eb, i * 3 + 2, none⟩ = some (.bool (gone i)) ∧ w.frozen? ⟨L.eb, i * 3 + 2, none⟩ = false
  need : ∀ j, j < n → w.cell? ⟨L.nb, j, none⟩ = some (.int .i64 (need E gone j : Nat)) ∧ w.frozen? ⟨L.nb, j, none⟩ = false
  done : ∀ j, j < n → w.cell? ⟨L.db, j, none⟩ = some (.bool (done j)) ∧ w.frozen? ⟨L.db, j, none⟩ = false
  ins : ∀ j, j < n → ∃ v, w.cell? ⟨L.ib, j, none⟩ = some v ∧ Ints w L.lim v (into E j)
  outs : ∀ j, j < n → ∃ v, w.cell? ⟨L.ob, j, none⟩ = some v ∧ Ints w L.lim v (outof E j)
  apart : L.eb ≠ L.sb ∧ L.eb ≠ L.nb ∧ L.eb ≠ L.ib ∧ L.eb ≠ L.ob ∧ L.eb ≠ L.db ∧ L.nb ≠ L.sb ∧ L.nb ≠ L.ib ∧ L.nb ≠ L.ob ∧ L.nb ≠ L.db ∧ L.db ≠ L.sb ∧ L.db ≠ L.ib ∧ L.db ≠ L.ob
  below : L.eb < L.lim ∧ L.nb < L.lim ∧ L.db < L.lim ∧ L.mb < L.lim
  room : L.lim ≤ w.heap.size
/-- a cell of the constraints' flags or of the counts is written: all other parts read as before -/
theorem Sr.write {L : Lay} {E : Edges} {n : Nat} {gone gone' done done' : Nat → Bool} {w w' : World} (h : Sr L E n gone done w) (hs : w'.heap.size = w.heap.size)
    (hk : ∀ k, k ≠ L.eb → k ≠ L.nb → k ≠ L.db → w'.heap[k]? = w.heap[k]?)
    (hedge : ∀ (i : Nat) (e : Nat × Nat), E[i]? = some e → w'.cell? ⟨L.eb, i * 3, none⟩ = some (.int .i64 (e.1 : Nat)) ∧ w'.cell? ⟨L.eb, i * 3 + 1, none⟩ = some (.int .i64 (e.2 : Nat)) ∧ w'.cell? ⟨L.eb, i * 3 + 2, none⟩ = some (.bool (gone' i)) ∧ w'.frozen? ⟨L.eb, i * 3 + 2, none⟩ = false)
    (hneed : ∀ j, j < n → w'.cell? ⟨L.nb, j, none⟩ = some (.int .i64 (Topo.need E gone' j : Nat)) ∧ w'.frozen? ⟨L.nb, j, none⟩ = false)
    (hdone : ∀ j, j < n → w'.cell? ⟨L.db, j, none⟩ = some (.bool (done' j)) ∧ w'.frozen? ⟨L.db, j, none⟩ = false) : Sr L E n gone' done' w' := by
  obtain ⟨a1, a2, a3, a4, a5, a6, a7, a8, a9, a10, a11, a12⟩ := h.apart
  obtain ⟨b1, b2, b3, b4⟩ := h.below
  have hc : ∀ b j, b ≠ L.eb → b ≠ L.nb → b ≠ L.db → w'.cell? ⟨b, j, none⟩ = w.cell? ⟨b, j, none⟩ := fun b j h1 h2 h3 => World.cell?_of_block (hk b h1 h2 h3)
  have hI : ∀ v xs, Ints w L.lim v xs → Ints w' L.lim v xs := fun v xs hv => hv.keep (by omega) fun b j hl _ => hc b j (by omega) (by omega) (by omega)
  refine ⟨by rw [hc _ _ (Ne.symm a1) (Ne.symm a6) (Ne.symm a10)]; exact h.c0, by rw [hc _ _ (Ne.symm a1) (Ne.symm a6) (Ne.symm a10)]; exact h.c6, h.mapart, h.sbl, by rw [hc _ _ (Ne.symm a1) (Ne.symm a6) (Ne.symm a10)]; exact h.c1, by rw [hc _ _ (Ne.symm a1) (Ne.symm a6) (Ne.symm a10)]; exact h.c2, by rw [hc _ _ (Ne.symm a1) (Ne.symm a6) (Ne.symm a10)]; exact h.c3, by rw [hc _ _ (Ne.symm a1) (Ne.symm a6) (Ne.symm a10)]; exact h.c4, by rw [hc _ _ (Ne.symm a1) (Ne.symm a6) (Ne.symm a10)]; exact h.c5, h.bound, h.ends, h.ea, hedge, hneed, hdone, ?_, ?_, h.apart, h.below, by rw [hs]; exact h.room⟩
  · intro j hj
    obtain ⟨v, h1, h2⟩ := h.ins j hj
    exact ⟨v, by rw [hc _ _ (Ne.symm a3) (Ne.symm a7) (Ne.symm a11)]; exact h1, hI _ _ h2⟩
  · intro j hj
    obtain ⟨v, h1, h2⟩ := h.outs j hj
    exact ⟨v, by rw [hc _ _ (Ne.symm a4) (Ne.symm a8) (Ne.symm a12)]; exact h1, hI _ _ h2⟩
/-- only the map's block and new blocks are written: the sorter's parts read as before -/
theorem Sr.other {L : Lay} {E : Edges} {n : Nat} {gone done : Nat → Bool} {w w' : World} (h : Sr L E n gone done w) (hs : w.heap.size ≤ w'.heap.size) (hk : ∀ k, k < w.heap.size → k ≠ L.mb → w'.heap[k]? = w.heap[k]?) : Sr L E n gone done w' := by
  obtain ⟨m1, m2, m3, m4, m5, m6⟩ := h.mapart
  obtain ⟨b1, b2, b3, b4⟩ := h.below
  obtain ⟨s1, s2, s3⟩ := h.sbl
  have hr := h.room
  have hc : ∀ b j, b < w.heap.size → b ≠ L.mb → w'.cell? ⟨b, j, none⟩ = w.cell? ⟨b, j, none⟩ := fun b j h1 h2 => World.cell?_of_block (hk b h1 h2)
  have hf : ∀ b j, b < w.heap.size → b ≠ L.mb → w'.frozen? ⟨b, j, none⟩ = w.frozen? ⟨b, j, none⟩ := fun b j h1 h2 => World.frozen?_of_block (hk b h1 h2)
  have hI : ∀ v xs, Ints w L.lim v xs → Ints w' L.lim v xs := fun v xs hv => hv.keep hs fun b j hl hb => hc b j hb (by omega)
  refine ⟨by rw [hc _ _ (by omega) (Ne.symm m1)]; exact h.c0, by rw [hc _ _ (by omega) (Ne.symm m1)]; exact h.c6, h.mapart, h.sbl, by rw [hc _ _ (by omega) (Ne.symm m1)]; exact h.c1, by rw [hc _ _ (by omega) (Ne.symm m1)]; exact h.c2, by rw [hc _ _ (by omega) (Ne.symm m1)]; exact h.c3, by rw [hc _ _ (by omega) (Ne.symm m1)]; exact h.c4, by rw [hc _ _ (by omega) (Ne.symm m1)]; exact h.c5, h.bound, h.ends, h.ea, ?_, ?_, ?_, ?_, ?_, h.apart, h.below, by omega⟩
  · intro i e he
    rw [hc _ _ (by omega) (Ne.symm m2), hc _ _ (by omega) (Ne.symm m2), hc _ _ (by omega) (Ne.symm m2), hf _ _ (by omega) (Ne.symm m2)]
    exact h.edge i e he
  · intro j hj
    rw [hc _ _ (by omega) (Ne.symm m5), hf _ _ (by omega) (Ne.symm m5)]
    exact h.need j hj
  · intro j hj
    rw [hc _ _ (by omega) (Ne.symm m6), hf _ _ (by omega) (Ne.symm m6)]
    exact h.done j hj
  · intro j hj
    obtain ⟨v, h1, h2⟩ := h.ins j hj
    exact ⟨v, by rw [hc _ _ (by omega) (Ne.symm m3)]; exact h1, hI _ _ h2⟩
  · intro j hj
    obtain ⟨v, h1, h2⟩ := h.outs j hj
    exact ⟨v, by rw [hc _ _ (by omega) (Ne.symm m4)]; exact h1, hI _ _ h2⟩
theorem Sr.drew {L : Lay} {E : Edges} {n : Nat} {gone done : Nat → Bool} {w : World} (h : Sr L E n gone done w) : Sr L E n gone done w.drew := h.write rfl (fun _ _ _ _ => rfl) h.edge h.need h.done
theorem Sr.removed {L : Lay} {E : Edges} {n : Nat} {gone done : Nat → Bool} {i : Nat} {e : Nat × Nat} {w : World} (h : Sr L E n gone done w) (he : E[i]? = some e) (hg : gone i = false) :
    Sr L E n (rem gone i) done ((w.setCell ⟨L.eb, i * 3 + 2, none⟩ (.bool true)).setCell ⟨L.nb, e.2, none⟩ (.int .i64 (Topo.need E (rem gone i) e.2 : Nat))) := by
  obtain ⟨a1, a2, a3, a4, a5, a6, a7, a8, a9, a10, a11, a12⟩ := h.apart
  have hi : i < E.length := (List.getElem?_eq_some_iff.1 he).1
  have hgd : E.getD i (0, 0) = e := by rw [List.getD_eq_getElem?_getD, he]; rfl
  refine h.write (by simp [World.setCell]) ?_ ?_ ?_ ?_
  · intro k h1 h2 _
    rw [Below.heap_setCell _ _ _ _ h2, Below.heap_setCell _ _ _ _ h1]
  · intro k x hx
    obtain ⟨e0, e1, e2, ef⟩ := h.edge k x hx
    refine ⟨?_, ?_, ?_, ?_⟩
    · rw [World.cell?_setCell_far _ _ _ _ (Ne.symm a2), World.cell?_setCell_other _ _ _ _ (by simp <;> omega)]; exact e0
    · rw [World.cell?_setCell_far _ _ _ _ (Ne.symm a2), World.cell?_setCell_other _ _ _ _ (by simp <;> omega)]; exact e1
    · rw [World.cell?_setCell_far _ _ _ _ (Ne.symm a2)]
      by_cases hk : k = i
      · subst hk
        rw [World.cell?_setCell_same _ _ _ e2]
        simp [rem]
      · rw [World.cell?_setCell_other _ _ _ _ (by simp <;> omega), e2]
        simp [rem, hk]
    · rw [World.frozen?_setCell, World.frozen?_setCell]; exact ef
  · intro j hj
    obtain ⟨n0, nf⟩ := h.need j hj
    refine ⟨?_, by rw [World.frozen?_setCell, World.frozen?_setCell]; exact nf⟩
    have hn := need_rem E gone i j hi hg
    rw [hgd] at hn
    have n1 : (w.setCell ⟨L.eb, i * 3 + 2, none⟩ (.bool true)).cell? ⟨L.nb, j, none⟩ = some (.int .i64 (Topo.need E gone j : Nat)) := (World.cell?_setCell_far _ _ _ _ a2).trans n0
    by_cases hje : j = e.2
    · subst hje
      rw [World.cell?_setCell_same _ _ _ n1]
    · rw [World.cell?_setCell_other _ _ _ _ (by simp <;> omega), n1, hn, if_neg (Ne.symm hje)]
      rfl
  · intro j hj
    obtain ⟨d0, df⟩ := h.done j hj
    refine ⟨?_, by rw [World.frozen?_setCell, World.frozen?_setCell]; exact df⟩
    rw [World.cell?_setCell_far _ _ _ _ a9, World.cell?_setCell_far _ _ _ _ a5]
    exact d0
set_option maxHeartbeats 1000000 in
set_option maxRecDepth 100000 in
theorem remove_any (L : Lay) (E : Edges) (n : Nat) (gone done : Nat → Bool) (i : Nat) (w : World) (h : Sr L E n gone done w) (hi : i < E.length) (_hE : E.length ≤ 1073741824) :
    Calls Try.prog 24 #[.pointer (some ⟨L.sb, 0, none⟩), .int .i64 i] w
      fun e w' => e = .returned (.tuple #[]) ∧ Sr L E n (rem gone i) done w' ∧ (∀ k, k ≠ L.eb → k ≠ L.nb → w'.heap[k]? = w.heap[k]?) ∧ w'.heap.size = w.heap.size ∧ Below 0 w w' := by
  have hc1 := h.c1
  have hc4 := h.c4
  have hea := h.ea (by intro e; rw [e] at hi; simp at hi)
  rw [hea] at hc1
  obtain ⟨e, he⟩ : ∃ e, E[i]? = some e := ⟨E[i], List.getElem?_eq_getElem hi⟩
  obtain ⟨e0, e1, e2, ef⟩ := h.edge i e he
  have hends := h.ends i e he
  obtain ⟨n0, nf⟩ := h.need e.2 hends.2
  obtain ⟨hb1, hb2, hb3, hb4⟩ := h.bound
  have hb2' : L.nc ≤ 9223372036854775807 := hb2
  have hb4' : L.ec ≤ 9223372036854775807 := hb4
  cases hg : gone i with
  | true =>
    rw [hg] at e2
    rw [rem_gone gone i hg]
    go_enter Try.func24, Try.ntmps24
    go_wp2
    go_end0
    exact ⟨rfl, h, fun _ _ _ => rfl, rfl, Below.refl _ _⟩
  | false =>
    rw [hg] at e2
    obtain ⟨a1, a2, a3, a4, a5, a6, a7, a8, a9, a10, a11, a12⟩ := h.apart
    have hH := Lib.hid h
    have hgd : E.getD i (0, 0) = e := by rw [List.getD_eq_getElem?_getD, he]; rfl
    have hN1 := need_rem E gone i e.2 hi hg
    rw [hgd, if_pos rfl] at hN1
    have hNle : Topo.need E gone e.2 ≤ E.length := Nat.le_trans (List.length_filter_le _ _) (idxs_length _ _)
    have k4 : (w.setCell ⟨L.eb, i * 3 + 2, none⟩ (.bool true)).cell? ⟨L.sb, 4, none⟩ = some (.slice (some ⟨L.nb, 0, none⟩) n L.nc) := (World.cell?_setCell_far _ _ _ _ a1).trans hc4
    have k1 : (w.setCell ⟨L.eb, i * 3 + 2, none⟩ (.bool true)).cell? ⟨L.eb, i * 3 + 1, none⟩ = some (.int .i64 (e.2 : Nat)) := (World.cell?_setCell_other _ _ _ _ (by simp)).trans e1
    have kn : (w.setCell ⟨L.eb, i * 3 + 2, none⟩ (.bool true)).cell? ⟨L.nb, e.2, none⟩ = some (.int .i64 (Topo.need E gone e.2 : Nat)) := (World.cell?_setCell_far _ _ _ _ a2).trans n0
    have kf : (w.setCell ⟨L.eb, i * 3 + 2, none⟩ (.bool true)).frozen? ⟨L.nb, e.2, none⟩ = false := (World.frozen?_setCell _ _ _ _).trans nf
    have hlt1 : (e.2 : Int) < (n : Int) := by omega
    generalize hN : Topo.need E gone e.2 = N at *
    generalize hN' : Topo.need E (rem gone i) e.2 = N' at *
    clear h
    go_enter Try.func24, Try.ntmps24
    go_wp2_with fail
    generalize hW1 : w.setCell ⟨L.eb, i * 3 + 2, none⟩ (.bool true) = W1 at *
    have HW := Lib.hid hW1
    clear hW1
    go_region
    go_end0
    have hR := hH.out.removed he hg
    rw [hN', HW.out] at hR
    refine ⟨rfl, hR.drew, ?_, ?_, ?_⟩
    · intro k h1 h2
      show (W1.setCell _ _).heap[k]? = _
      rw [Below.heap_setCell _ _ _ _ h2, ← HW.out, Below.heap_setCell _ _ _ _ h1]
    · rw [← HW.out]
      simp [World.setCell, World.drew]
    · rw [← HW.out]
      exact (((Below.refl 0 w).setCell (Nat.zero_le _) _).setCell (Nat.zero_le _) _).drew
end Go.Proofs.Ytlnbkljajocfoaa.TSorter
