/- A machine that runs a program's code on written inputs by computation alone, part 10: append and copy in the kept heap. No condition. -/
import Derived.Test.YtcnclcfglfgjlaaGreatDoorCxMem3
namespace Go.Proofs.YtcnclcfglfgjlaaGreatDoor.Cx
open Go

section
variable {P : Program} {E : Em} {w : World}
/-- the two outcomes of an operation that may make names -/
def Makes (P : Program) (E : Em) (s s' : HS) (w : World) (r : Value) (x : Sem Value) : Prop :=
  ∃ l, s'.log = l ++ s.log ∧ s.next ≤ s'.next ∧ ∃ E' r' w', x.run P w = .ok r' w' ∧ VR E' r r' ∧ Tx E s.at w s.next E' s'.at w' s'.next l
theorem sourceA_len {s : HS} {z n : Nat} {y : Value} {new : List Value} (h : sourceA s z n y = some new) (hn : lenA y = some n) : new.length = n * z := by
  unfold sourceA at h
  split at h
  · split at h
    · cases h; simp
    · cases h
  · split at h
    · rw [cellsA_old] at h
      split at h
      · rename_i hb; cases h; exact beq_eq hb
      · cases h
    · cases h
  · rename_i t
    split at h
    · rename_i hb
      cases h
      have hz := beq_eq hb
      subst hz
      simp only [lenA, Option.some.injEq] at hn
      subst hn
      have : t.data.toList.length = t.size := rfl
      rw [List.length_map, List.length_take, this, Nat.min_self, Nat.mul_one]
    · cases h
  · cases h
theorem cellsA_len {cs xs : List Value} {o n : Nat} (h : cellsA cs o n = some xs) : xs.length = n := by
  rw [cellsA_old] at h
  split at h
  · rename_i hb; cases h; exact beq_eq hb
  · cases h
theorem zeroCells_size (z : Array Value) (n : Nat) : (Builtin.zeroCells z n).size = n * z.size := by simp [Builtin.zeroCells]

theorem appendA_run {s s' : HS} {t u ty : Nat} {x x' y y' r : Value} (h : appendA P s t u x y = some (r, s')) (H : HR E s.at w) (hf : s.next < s'.next → E s.next = none) (hx : VR E x x') (hy : VR E y y') :
    Makes P E s s' w r (Builtin.append_ #[t, u] ty #[x', y']) := by
  unfold appendA at h
  split at h
  · rename_i e ud ht hu
    split at h
    · rename_i i zv n hi hzv hlen
      obtain ⟨hzr, hzb, i', hi', hzs⟩ := zeroT_run hzv
      rw [hi] at hi'; cases hi'
      split at h
      · cases h
      · rename_i z hz
        split at h
        · cases h
        · rename_i hcond
          simp only [Bool.and_eq_true] at hcond
          obtain ⟨hby, hn5, hall, hni⟩ := hcond
          have hby := ble_le hby
          have hn5 := ble_le hn5
          split at h
          · cases h
          · rename_i new hnew
            split at h
            · cases h
            · rename_i hone
              have hzero : i.zero = some zv := by
                unfold zeroT at hzv
                rw [hi] at hzv
                dsimp only at hzv
                split at hzv
                · rename_i z0 hz0
                  split at hzv
                  · split at hzv
                    · cases hzv; exact hz0
                    · cases hzv
                  · cases hzv
                · cases hzv
              have hlr := fun w => lenA_run (P := P) hlen hy w
              obtain ⟨new', hnr, hfc⟩ := sourceA_cells (P := P) hnew H hy
              have hnl := sourceA_len hnew hlen
              have hnl' : new'.length = n * (z + 1) := by rw [← hnr.length, hnl]
              -- a new row
              have grow : ∀ (base : Option Addr) (l c' : Nat) (old old' : List Value), ¬ l + n ≤ c' → l ≤ 100000 → old.length = l * (z + 1) → LR E old old' →
                  (∀ w' : World, w'.heap = w.heap → (Builtin.firstCells (z + 1) l (.slice base l c')).run P w' = .ok old'.toArray w') →
                  ∀ (s0 : HS) (s1 : HS) (r : Value), HR E s0.at w → newRowA s0 e (z + 1) (old ++ new) (l + n) unk = some (r, s1) → E s0.next = none →
                    s1.log = s0.log ∧ s1.next = s0.next + 1 ∧ ∃ E' r' w', (Builtin.append_ #[t, u] ty #[.slice base l c', y']).run P w = .ok r' w' ∧ VR E' r r' ∧ Tx E s0.at w s0.next E' s1.at w' s1.next [] := by
                intro base l c' old old' hg hl5 hol hor hold s0 s1 r H0 hr0 hf0
                have hrun := append_grow (P := P) (w := w) (ty := ty) (z := z + 1) (base := base) (news := new'.toArray) (olds := old'.toArray) ht hu hni hi (by omega) hzero hby (hlr w) hfc hold hg (by omega)
                have hge := grownCap_ge w (l + n) c' e
                have hol' : old'.length = l * (z + 1) := by rw [← hor.length, hol]
                have hsz : (old'.toArray ++ new'.toArray ++ Builtin.zeroCells zv.cells (grownCap w (l + n) c' e - (l + n))).size = grownCap w (l + n) c' e * (z + 1) := by
                  simp only [Array.size_append, zeroCells_size, List.size_toArray, hol', hnl', hzs, hz]
                  have e1 : grownCap w (l + n) c' e = l + n + (grownCap w (l + n) c' e - (l + n)) := by omega
                  conv => rhs; rw [e1]
                  simp only [Nat.add_mul]
                have hH : HR E s0.at { w with drawn := w.drawn + 1 } := H0.world rfl
                obtain ⟨k1, k2, E', k3, k4⟩ := newRowA_run (w := { w with drawn := w.drawn + 1 }) (cur := old'.toArray ++ new'.toArray ++ Builtin.zeroCells zv.cells (grownCap w (l + n) c' e - (l + n))) (fz := (0, 0)) (cap' := grownCap w (l + n) c' e) hr0 hH hf0
                  (by rw [hsz, List.length_append, hol, hnl, ← Nat.add_mul]; exact Nat.mul_le_mul_right _ hge)
                  (by
                    have hlen2 : (old ++ new).length = (old' ++ new').length := (hor.append hnr).length
                    rw [hlen2]
                    have : (old'.toArray ++ new'.toArray ++ Builtin.zeroCells zv.cells (grownCap w (l + n) c' e - (l + n))).toList.take (old' ++ new').length = old' ++ new' := by
                      simp only [Array.toList_append]
                      rw [List.take_append_of_le_length (by simp), List.take_of_length_le (by simp)]
                    rw [this]
                    exact hor.append hnr)
                  (.inl rfl) (.inr rfl) hge (by rw [hsz]; exact Nat.le_refl _)
                exact ⟨k2, k1, E', _, _, hrun, k3, by rw [k1]; exact k4.drewL⟩
              unfold appendTo at h
              simp only [lenIs_eq, apK_eq] at h
              split at h
              · obtain rfl := slice0_inv hx
                split at h
                · cases h
                  refine ⟨[], rfl, Nat.le_refl _, E, _, _, ?_, .slice0 0 0, Tx.refl _ H⟩
                  rw [append_room (P := P) (w := w) (ty := ty) (z := z + 1) (news := new'.toArray) ht hu hni hi (by omega) (hlr w) (hfc w rfl) (by omega)]
                · rename_i n1 _
                  have hsn : s'.next = s.next + 1 := by
                    unfold newRowA at h
                    split at h
                    · rename_i s2 hn2; cases h; exact (HS.new_spec hn2).2.1
                    · cases h
                  have h' : newRowA s e (z + 1) ([] ++ new) (0 + (n1 + 1)) unk = some (r, s') := by simpa using h
                  obtain ⟨k1, k2, E', r', w', k3, k4, k5⟩ := grow none 0 0 [] [] (by omega) (by omega) (by simp) trivial (fun w' _ => by simp [Builtin.firstCells]) s s' r H h' (hf (by omega))
                  exact ⟨[], by simpa using k1, by omega, E', r', w', k3, k4, k5⟩
              · rename_i b o l c
                split at h
                · rename_i cs t1 z1 hrow
                  split at h
                  · cases h
                  · rename_i hcond
                    simp only [Bool.and_eq_true] at hcond
                    obtain ⟨hz1, hl5, ht1⟩ := hcond
                    have hz1 := beq_eq hz1
                    have hl5 := ble_le hl5
                    have ht1 := beq_eq ht1
                    subst hz1
                    subst ht1
                    obtain ⟨em, cur, fz, he, hez, hcur, hrows, hfz, hle, hcl⟩ := H.row hrow
                    obtain ⟨em', c', he', rfl, hcc, hlc, hfit⟩ := slice_inv hx
                    rw [he] at he'; cases he'
                    have hfit : o + c' * (z + 1) ≤ em.rows := by
                      rcases hfit with h0 | h0
                      · omega
                      · rw [hez] at h0; exact h0
                    split at h
                    · rename_i hcu
                      split at h
                      · cases h
                        refine ⟨[], rfl, Nat.le_refl _, E, .slice (some ⟨em.blk, o, none⟩) l c', w, ?_, .slice b o l unk c' em he (.inr rfl) hlc (.inr (by rw [hez]; exact hfit)), Tx.refl _ H⟩
                        rw [append_room (P := P) (w := w) (ty := ty) (z := z + 1) (news := new'.toArray) ht hu hni hi (by omega) (hlr w) (hfc w rfl) (by omega)]
                        have : new' = [] := List.length_eq_zero_iff.1 (by rw [hnl']; omega)
                        subst this
                        simp [storeCells]
                      · rename_i n1 _
                        have hnl : new.length = (n1 + 1) * (z + 1) := hnl
                        have hnl' : new'.length = (n1 + 1) * (z + 1) := hnl'
                        split at h
                        · rename_i hcond
                          simp only [Bool.and_eq_true] at hcond
                          have hlcs := beq_eq hcond.1
                          have ho := beq_eq hcond.2
                          subst ho
                          split at h
                          · rename_i s2 hs2
                            cases h
                            obtain ⟨q1, q2, q3⟩ := HS.take_spec hs2
                            have hfn : E s.next = none := hf (by omega)
                            by_cases hroom : l + (n1 + 1) ≤ c'
                            · -- in place
                              have hr1 := append_room (P := P) (w := w) (ty := ty) (z := z + 1) (base := some ⟨em.blk, 0, none⟩) (news := new'.toArray) ht hu hni hi (by omega) (hlr w) (hfc w rfl) hroom
                              have hbound : l * (z + 1) + new'.length ≤ cur.size := by
                                rw [hnl', ← Nat.add_mul, hrows]
                                have := Nat.mul_le_mul_right (z + 1) hroom
                                omega
                              have hst := Own.run_storeCellsM P em.blk (l * (z + 1)) t1 fz new' 0 cur w hcur (by simp only [Nat.add_zero]; omega) (by simp only [Nat.add_zero]; omega) (lr_all_one hnr hone)
                              simp only [Nat.add_zero] at hst
                              rw [setRow_put hcur] at hst
                              simp only [add_eq, Nat.zero_add, hst, Result.andThen_ok] at hr1
                              refine ⟨[b], q3, by omega, updE E s.next em, _, _, hr1, ?_, ?_⟩
                              · exact VR.slice s.next 0 _ unk c' em (by simp [updE]) (.inr rfl) hroom (.inr (by rw [hez]; omega))
                              · rw [q1, q2]
                                refine Tx.take H hfn he hrow ⟨hez, _, fz, rfl, ?_, ?_, ?_, ?_⟩
                                · simp; omega
                                · rcases hfz with h | h
                                  · exact .inl h
                                  · right; simp; omega
                                · simp [hnl]; omega
                                · have e1 : (cs ++ new).length = l * (z + 1) + new'.length := by rw [List.length_append, hnr.length, hlcs]
                                  rw [e1]
                                  have e2 : (cur.toList.take (l * (z + 1)) ++ new' ++ cur.toList.drop (l * (z + 1) + new'.length)).toArray.toList.take (l * (z + 1) + new'.length) = cur.toList.take cs.length ++ new' := by
                                    rw [List.toList_toArray, List.take_append_of_le_length (by simp; omega), List.take_of_length_le (by simp; omega), hlcs]
                                  rw [e2]
                                  exact hcl.append hnr
                            · -- a new row
                              have hD := Tx.drop (b := b) (n := s.next) H
                              obtain ⟨ys, y1, y2, y3⟩ := cellsA_rel (cs := cs) (xs := cs) (o := 0) (n := l * (z + 1)) (cur := cur.toList) (by
                                have e0 : (cs.drop 0).take (l * (z + 1)) = cs := by rw [List.drop_zero, hlcs, List.take_length]
                                rw [cellsA_old]
                                rw [e0, nbeq_t hlcs.symm]) hcl
                              have hold : ∀ w' : World, w'.heap = w.heap → (Builtin.firstCells (z + 1) l (.slice (some ⟨em.blk, 0, none⟩) l c')).run P w' = .ok ys.toArray w' := by
                                intro w' hw
                                have := load_cells (P := P) (w := w') (b := em.blk) (o := 0) (n := l * (z + 1)) (by rw [hw]; exact hcur) y1 y3
                                simp [Builtin.firstCells, this]
                              -- the heap without the old name, and then the new row
                              let s0 : HS := ⟨s.heap.set deep b none, s.next, b :: s.log⟩
                              have hs0 : s0.at = upd s.at b none := by
                                have hbl : Nat.ble b lim = true := by
                                  rw [HS.take_old] at hs2
                                  split at hs2
                                  · assumption
                                  · cases hs2
                                have hbl := ble_le hbl
                                funext d
                                unfold upd HS.at
                                by_cases hd : d = b
                                · subst hd; simp only [if_true]; exact Tr.get_set _ _ _ (by unfold deep; unfold lim at hbl; omega)
                                · rw [if_neg hd]; exact Tr.get_set_ne _ _ _ _ hd
                              have hn0 : newRowA s0 t1 (z + 1) (cs ++ new) (l + (n1 + 1)) unk = some (.slice (some ⟨s.next, 0, none⟩) (l + (n1 + 1)) unk, s') := by
                                rw [HS.take_old] at hs2
                                split at hs2
                                · rename_i hb1 hb2
                                  cases hs2
                                  unfold newRowA
                                  rw [HS.new_old]
                                  simp only [s0, hb2]
                                · cases hs2
                              obtain ⟨k1, k2, E', r', w', k3, k4, k5⟩ := grow (some ⟨em.blk, 0, none⟩) l c' cs ys hroom hl5 hlcs.symm y2 hold s0 s' _ (by rw [hs0]; exact hD.hr) hn0 hfn
                              refine ⟨[b], by rw [k1]; rfl, by rw [k2]; exact Nat.le_succ _, E', r', w', k3, k4, ?_⟩
                              have k6 : Tx E s.at w s.next E s0.at w s.next [b] := by rw [hs0]; exact hD
                              exact k6.trans k5
                          · cases h
                        · cases h
                    · rename_i hcu
                      have hcx : c = c' := hcc.resolve_right (beq_ne hcu)
                      subst hcx
                      split at h
                      · rename_i hroom
                        have hroom := ble_le hroom
                        split at h
                        · rename_i s2 hs2
                          cases h
                          obtain ⟨k1, k2, w', k3, k4⟩ := storeRow_run (P := P) hs2 H hnr he
                          have hr1 := append_room (P := P) (w := w) (ty := ty) (z := z + 1) (base := some ⟨em.blk, o, none⟩) (news := new'.toArray) ht hu hni hi (by omega) (hlr w) (hfc w rfl) hroom
                          simp only [add_eq, k3, Result.andThen_ok] at hr1
                          exact ⟨[b], k2, by omega, E, _, w', hr1, .slice b o _ c c em he (.inl rfl) hroom (.inr (by rw [hez]; exact hfit)), by rw [k1]; exact k4⟩
                        · cases h
                      · rename_i hroom
                        have hroom := ble_gt hroom
                        split at h
                        · rename_i old hold
                          have hsn : s'.next = s.next + 1 := by
                            unfold newRowA at h
                            split at h
                            · rename_i s2 hn2; cases h; exact (HS.new_spec hn2).2.1
                            · cases h
                          obtain ⟨ys, y1, y2, y3⟩ := cellsA_rel hold hcl
                          have hold' : ∀ w' : World, w'.heap = w.heap → (Builtin.firstCells (z + 1) l (.slice (some ⟨em.blk, o, none⟩) l c)).run P w' = .ok ys.toArray w' := by
                            intro w' hw
                            have := load_cells (P := P) (w := w') (b := em.blk) (o := o) (n := l * (z + 1)) (by rw [hw]; exact hcur) y1 y3
                            simp [Builtin.firstCells, this]
                          obtain ⟨k1, k2, E', r', w', k3, k4, k5⟩ := grow (some ⟨em.blk, o, none⟩) l c old ys (by omega) hl5 (cellsA_len hold) y2 hold' s s' r H h (hf (by omega))
                          exact ⟨[], by simpa using k1, by omega, E', r', w', k3, k4, k5⟩
                        · cases h
                · cases h
              · cases h
    · cases h
  · cases h
end
end Go.Proofs.YtcnclcfglfgjlaaGreatDoor.Cx
