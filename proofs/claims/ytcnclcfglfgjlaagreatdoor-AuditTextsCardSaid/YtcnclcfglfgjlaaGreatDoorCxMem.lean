/- A machine that runs a program's code on written inputs by computation alone, part 7: reading and writing the heap. No condition. -/
import Derived.Test.YtcnclcfglfgjlaaGreatDoorCxPure3
import Derived.Test.YtcnclcfglfgjlaaGreatDoorOwn
namespace Go.Proofs.YtcnclcfglfgjlaaGreatDoor.Cx
open Go

theorem HS.new_spec {s s' : HS} {o : AObj} (h : s.new o = some s') : s'.at = upd s.at s.next (some o) ∧ s'.next = s.next + 1 ∧ s'.log = s.log := by
  rw [HS.new_old] at h
  split at h
  · rename_i hb
    cases h
    have hl : s.next ≤ 2 ^ 30 := by simpa [lim] using hb
    refine ⟨funext fun b => ?_, rfl, rfl⟩
    unfold upd HS.at
    by_cases hx : b = s.next
    · subst hx; simp only [if_true]; exact Tr.get_set _ _ _ (by unfold deep; omega)
    · rw [if_neg hx]; exact Tr.get_set_ne _ _ _ _ hx
  · cases h
theorem HS.put_spec {s s' : HS} {b : Nat} {o : AObj} (h : s.put b o = some s') : s'.at = upd s.at b (some o) ∧ s'.next = s.next ∧ s'.log = b :: s.log := by
  rw [HS.put_old] at h
  split at h
  · rename_i hb
    cases h
    have hl : b ≤ 2 ^ 30 := by simpa [lim] using hb
    refine ⟨funext fun c => ?_, rfl, rfl⟩
    unfold upd HS.at
    by_cases hx : c = b
    · subst hx; simp only [if_true]; exact Tr.get_set _ _ _ (by unfold deep; omega)
    · rw [if_neg hx]; exact Tr.get_set_ne _ _ _ _ hx
  · cases h
theorem HS.take_spec {s s' : HS} {b : Nat} {o : AObj} (h : s.take b o = some s') : s'.at = upd (upd s.at b none) s.next (some o) ∧ s'.next = s.next + 1 ∧ s'.log = b :: s.log := by
  rw [HS.take_old] at h
  split at h
  · rename_i hb hn
    cases h
    have hl : b ≤ 2 ^ 30 := by simpa [lim] using hb
    have hl' : s.next ≤ 2 ^ 30 := by simpa [lim] using hn
    refine ⟨funext fun c => ?_, rfl, rfl⟩
    unfold upd HS.at
    by_cases hx : c = s.next
    · subst hx; simp only [if_true]; exact Tr.get_set _ _ _ (by unfold deep; omega)
    · rw [if_neg hx]
      show (Tr.set deep (Tr.set deep s.heap b none) s.next (some o)).get c = _
      rw [Tr.get_set_ne _ _ _ _ hx]
      by_cases hy : c = b
      · subst hy; simp only [if_true]; exact Tr.get_set _ _ _ (by unfold deep; omega)
      · rw [if_neg hy]; exact Tr.get_set_ne _ _ _ _ hy
  · cases h

section
variable {P : Program} {E : Em} {w : World}
/-- a row of the kept heap in the world -/
theorem HR.row {h : Hp} (H : HR E h w) {b : Nat} {cs : List Value} {t z : Nat} (hb : h b = some (.row cs t z)) :
    ∃ e cur fz, E b = some e ∧ e.esz = z ∧ w.heap[e.blk]? = some (.cells cur t fz) ∧ cur.size = e.rows ∧ (fz.2 = 0 ∨ cur.size ≤ fz.1) ∧ cs.length ≤ cur.size ∧ LR E cs (cur.toList.take cs.length) := by
  obtain ⟨e, he, hz, cur, fz, h1, h2, h3, h4, h5⟩ := H.here b _ hb
  exact ⟨e, cur, fz, he, hz, h1, h2, h3, h4, h5⟩
theorem get_take {α : Type} {l : List α} {n i : Nat} {x : α} (h : (l.take n)[i]? = some x) : l[i]? = some x := by
  rw [List.getElem?_take] at h
  split at h
  · exact h
  · cases h
theorem cellsA_rel {cs xs : List Value} {o n : Nat} {cur : List Value} (h : cellsA cs o n = some xs) (hl : LR E cs (cur.take cs.length)) :
    ∃ ys, ys.length = n ∧ LR E xs ys ∧ ∀ j y, ys[j]? = some y → cur[o + j]? = some y := by
  rw [cellsA_old] at h
  split at h
  · rename_i hb
    cases h
    refine ⟨((cur.take cs.length).drop o).take n, ?_, (hl.drop o).take n, fun j y hy => ?_⟩
    · have := ((hl.drop o).take n).length
      rw [← this]
      simpa using hb
    · have h1 := get_take hy
      rw [List.getElem?_drop] at h1
      exact get_take h1
  · cases h
theorem ptrA_spec {x : Value} {b o : Nat} (h : ptrA x = some (b, o)) : x = .pointer (some ⟨b, o, none⟩) := by
  unfold ptrA at h
  split at h
  · cases h; rfl
  · cases h
theorem load_cells {b o n : Nat} {cur : Array Value} {t : Nat} {fz : Nat × Nat} (hc : w.heap[b]? = some (.cells cur t fz)) {ys : List Value} (hn : ys.length = n)
    (h : ∀ j y, ys[j]? = some y → cur.toList[o + j]? = some y) : (loadCells ⟨b, o, none⟩ n).run P w = .ok ys.toArray w := by
  subst hn
  refine run_loadCells_list (P := P) w ⟨b, o, none⟩ ys fun j v hj => ?_
  rw [add_eq, cell_of_row w b (o + j) cur t fz hc]
  simpa using h j v hj
theorem loadA_run {s : HS} {t : Nat} {x x' v : Value} (h : loadA P s t x = some v) (H : HR E s.at w) (hx : VR E x x') : ∃ v', VR E v v' ∧ (Instr.loadAt t x').run P w = .ok v' w := by
  unfold loadA at h
  split at h
  · rename_i b o hp
    obtain rfl := ptrA_spec hp
    obtain ⟨e0, he0, rfl⟩ := ptr_inv hx
    split at h
    · rename_i cs rt z hb
      obtain ⟨e, cur, fz, he, _, hc, _, _, _, hl⟩ := H.row hb
      rw [he] at he0; cases he0
      split at h
      · rename_i n ha hn
        split at h
        · rename_i xs hxs
          cases h
          obtain ⟨ys, h1, h2, h3⟩ := cellsA_rel hxs hl
          refine ⟨.agg ys.toArray, VR.agg' (by simpa using h2), ?_⟩
          simp [Instr.loadAt, Instr.sureAddr, loadVar, aggT_run ha, sizeT_run hn, load_cells hc h1 h3]
        · cases h
      · rename_i ha
        rw [nth_eq] at h
        obtain ⟨y, hy, hv⟩ := hl.at o v h
        have hy' := get_take hy
        refine ⟨y, hv, ?_⟩
        have hcell : w.cell? ⟨e0.blk, o, none⟩ = some y := by rw [cell_of_row w _ _ _ _ _ hc]; simpa using hy'
        simp [Instr.loadAt, Instr.sureAddr, loadVar, aggT_run ha, hcell]
      · cases h
    · cases h
  · cases h

theorem setRow_put {g : Nat} {cur cs : Array Value} {t : Nat} {fz : Nat × Nat} (hg : w.heap[g]? = some (.cells cur t fz)) :
    w.setRow g cs = { w with heap := w.heap.setIfInBounds g (.cells cs t fz) } := by
  unfold World.setRow
  congr 1
  apply Array.ext_getElem?
  intro i
  rw [Array.getElem?_modify, Array.getElem?_setIfInBounds]
  by_cases hi : g = i
  · subst hi
    obtain ⟨hlt, hv⟩ := Array.getElem?_eq_some_iff.1 hg
    simp [hlt, hv]
  · simp [hi]
theorem lr_all_one {xs ys : List Value} (h : LR E xs ys) (hx : xs.all (·.oneCell') = true) : ∀ y ∈ ys, y.oneCell' = true := by
  intro y hy
  obtain ⟨i, hi⟩ := List.getElem?_of_mem hy
  have hlt : i < xs.length := by rw [h.length]; exact (List.getElem?_eq_some_iff.1 hi).1
  obtain ⟨y', hy', hv⟩ := h.at i xs[i] (List.getElem?_eq_getElem hlt)
  rw [hi] at hy'
  cases hy'
  rw [hv.one]
  exact List.all_eq_true.1 hx _ (List.getElem_mem hlt)
theorem storeRow_run {s s' : HS} {b o : Nat} {vs vs' : List Value} (h : storeRow s b o vs = some s') (H : HR E s.at w) (hv : LR E vs vs') {e : Emb} (he : E b = some e) :
    s'.next = s.next ∧ s'.log = b :: s.log ∧ ∃ w', (storeCells ⟨e.blk, o, none⟩ vs').run P w = .ok () w' ∧ Tx E s.at w s.next E s'.at w' s.next [b] := by
  unfold storeRow at h
  simp only [spliceK_eq, splice_eq] at h
  split at h
  · rename_i hone
    split at h
    · rename_i cs rt z hb
      split at h
      · rename_i hle
        obtain ⟨h1, h2, h3⟩ := HS.put_spec h
        refine ⟨h2, h3, ?_⟩
        obtain ⟨e', cur, fz, he', hz, hc, hsz, hfz, hle', hl⟩ := H.row hb
        rw [he] at he'; cases he'
        have hlen := hv.length
        have hle : o + vs.length ≤ cs.length := by simpa using hle
        have hr := Own.run_storeCellsM P e.blk o rt fz vs' 0 cur w hc (by simp only [Nat.add_zero]; omega) (by simp only [Nat.add_zero]; omega) (lr_all_one hv hone)
        simp only [Nat.add_zero] at hr
        rw [setRow_put hc] at hr
        refine ⟨_, hr, ?_⟩
        rw [h1]
        refine Tx.put H he hb ⟨hz, _, fz, rfl, ?_, ?_, ?_, ?_⟩
        · simp; omega
        · rcases hfz with h | h
          · exact .inl h
          · right; simp; omega
        · simp [splice]; omega
        · have hsp : (splice cs o vs).length = cs.length := by simp [splice]; omega
          rw [hsp]
          have hK : cur.toList = cur.toList.take cs.length ++ cur.toList.drop cs.length := (List.take_append_drop _ _).symm
          have hKl : (cur.toList.take cs.length).length = cs.length := by simp; omega
          generalize cur.toList.take cs.length = K at hK hKl hl
          generalize cur.toList.drop cs.length = R at hK
          have e1 : cur.toList.take o = K.take o := by rw [hK, List.take_append_of_le_length (by omega)]
          have e2 : cur.toList.drop (o + vs'.length) = K.drop (o + vs'.length) ++ R := by rw [hK, List.drop_append_of_le_length (by omega)]
          rw [e1, e2]
          have e3 : (K.take o ++ vs' ++ (K.drop (o + vs'.length) ++ R)).toArray.toList.take cs.length = K.take o ++ (vs' ++ K.drop (o + vs'.length)) := by
            have : K.take o ++ vs' ++ (K.drop (o + vs'.length) ++ R) = (K.take o ++ (vs' ++ K.drop (o + vs'.length))) ++ R := by simp [List.append_assoc]
            rw [List.toList_toArray, this, List.take_append_of_le_length (by simp; omega), List.take_of_length_le (by simp; omega)]
          rw [e3]
          unfold splice
          rw [hlen]
          exact (hl.take o).append (hv.append (hl.drop _))
      · cases h
    · cases h
  · cases h
theorem storeA_run {s s' : HS} {t : Nat} {x x' v v' : Value} (h : storeA P s t x v = some s') (H : HR E s.at w) (hx : VR E x x') (hv : VR E v v') :
    s'.next = s.next ∧ ∃ b, s'.log = b :: s.log ∧ ∃ w', (Instr.storeAt t x' v').run P w = .ok () w' ∧ Tx E s.at w s.next E s'.at w' s.next [b] := by
  unfold storeA at h
  split at h
  · rename_i b o n hp hn
    obtain rfl := ptrA_spec hp
    obtain ⟨e, he, rfl⟩ := ptr_inv hx
    split at h
    · rename_i hb
      obtain ⟨h1, h2, w', h3, h4⟩ := storeRow_run (P := P) h H hv.cells he
      refine ⟨h1, b, h2, w', ?_, h4⟩
      have hs : v'.cells.size = n := by
        have := hv.cells.length
        simp only [Array.length_toList] at this
        rw [← this]
        simpa using hb
      simp [Instr.storeAt, Instr.sureAddr, storeVar, sizeT_run hn, hs, h3]
    · cases h
  · cases h

/-- a new row, from cells that stand for it -/
theorem new_row {s s' : HS} {t z : Nat} {cs : List Value} {cur : Array Value} (h : s.new (.row cs t z) = some s') (H : HR E s.at w) (hf : E s.next = none) (hl : cs.length ≤ cur.size) (hr : LR E cs (cur.toList.take cs.length)) (fz : Nat × Nat)
    (hz : fz.2 = 0 ∨ cur.size ≤ fz.1) :
    s'.next = s.next + 1 ∧ s'.log = s.log ∧ Tx E s.at w s.next (updE E s.next ⟨w.heap.size, cur.size, z⟩) s'.at { w with heap := w.heap.push (.cells cur t fz) } (s.next + 1) [] := by
  obtain ⟨h1, h2, h3⟩ := HS.new_spec h
  refine ⟨h2, h3, ?_⟩
  rw [h1]
  exact Tx.new H hf rfl ⟨rfl, cur, fz, rfl, rfl, hz, hl, hr⟩
theorem take_self {xs ys : List Value} (h : LR E xs ys) : LR E xs (ys.take xs.length) := by
  rw [List.take_of_length_le (by rw [h.length]; exact Nat.le_refl _)]
  exact h
theorem run_newRow (e : TypeId) (cur : Array Value) : (newRow e cur).run P w = .ok ⟨w.heap.size, 0, none⟩ { w with heap := w.heap.push (.cells cur e) } := rfl
theorem newVarA_run {s s' : HS} {t : Nat} {v v' r : Value} (h : newVarA s t v = some (r, s')) (H : HR E s.at w) (hf : E s.next = none) (hv : VR E v v') :
    s'.next = s.next + 1 ∧ s'.log = s.log ∧ ∃ E' r' w', (newVar t v').run P w = .ok r' w' ∧ VR E' r (.pointer (some r')) ∧ Tx E s.at w s.next E' s'.at w' (s.next + 1) [] := by
  unfold newVarA at h
  split at h
  · rename_i s'' hn
    cases h
    have hc := hv.cells
    obtain ⟨h1, h2, h3⟩ := new_row (w := w) (cur := v'.cells) hn H hf (by have := hc.length; simp at this ⊢; omega) (take_self hc) (0, 0) (.inl rfl)
    refine ⟨h1, h2, _, _, _, run_newRow t v'.cells, ?_, h3⟩
    exact VR.ptr s.next 0 ⟨w.heap.size, v'.cells.size, 0⟩ (by simp [updE])
  · cases h
theorem zeroT_run {t : Nat} {z : Value} (h : zeroT P t = some z) : (∀ w, (zeroValue t).run P w = .ok z w) ∧ bare z = true ∧ ∃ i, P.info? t = some i ∧ z.cells.size = i.size := by
  unfold zeroT at h
  split at h
  · rename_i i hi
    split at h
    · rename_i z' hz
      split at h
      · rename_i hb
        split at h
        · rename_i hs
          cases h
          exact ⟨fun w => by simp [zeroValue, typeInfo, hi, hz], hb, i, hi, by simpa using hs⟩
        · cases h
      · cases h
    · cases h
  · cases h
end
end Go.Proofs.YtcnclcfglfgjlaaGreatDoor.Cx
