/- tsort.Sort. -/
import Derived.Test.YtlnbkljajocfoaaTStart
import Derived.Test.YtlnbkljajocfoaaTApp
import Derived.Test.YtlnbkljajocfoaaTOut
namespace Go.Proofs.Ytlnbkljajocfoaa.TSort
open Go Go.RowKit Go.Maps Go.WideMaps Strs Topo TWords TPairs TGraph TRead TSorter TBefore TSlices TReverse TClone TClear TCycle TMake TFam TBuild TStart TApp TOut

theorem shape {w : World} {base : Nat} {e : TypeId} {size : Nat} {v : Value} {n : Nat} {xs : List Value} (h : w.ownsRow base e size v n xs) : ∃ a c, v = .slice a n c ∧ n ≤ c ∧ c ≤ maxLen := by
  rcases h.2 with ⟨rfl, h0⟩ | ⟨g', cap, cur, rfl, _, _, hn, hcm, _⟩
  · exact ⟨none, 0, by rw [h0], by omega, Nat.zero_le _⟩
  · exact ⟨_, cap, rfl, hn, hcm⟩
theorem ints_info : (Try.prog.info? 51).map (fun i => (i.zero, i.size, i.bytes)) = some (some (.slice none 0 0), 1, 24) := by kernel_rfl
theorem bool_info : (Try.prog.info? 4).map (fun i => (i.zero, i.size, i.bytes)) = some (some (.bool false), 1, 1) := by kernel_rfl
theorem make_any (t e : TypeId) (z : Value) (bytes n : Nat) (ht : Try.prog.underlying t = some (.slice e)) (hi : (Try.prog.info? e).map (fun i => (i.zero, i.size, i.bytes)) = some (some z, 1, bytes)) (hb : bytes ≤ 24) (hn : n ≤ 1073741824) (W : World) :
    (Instr.makeSlice t (.int .i64 (n : Nat)) (.int .i64 (n : Nat))).run Try.prog W = .ok (.slice (some ⟨W.heap.size, 0, none⟩) n n) (W.alloc (.cells (madeCells z.cells n) e)) := by
  obtain ⟨i, h0, h1, h2, h3⟩ := info_parts hi
  have hbb : i.bytes * n ≤ 24 * 1073741824 := Nat.mul_le_mul (by omega) hn
  have := run_make (P := Try.prog) W t e i z ht h0 h1 .i64 .i64 (n : Int) (n : Int) (by omega) (by omega) (by
    have : ((i.bytes : Int) * (n : Int)) = ((i.bytes * n : Nat) : Int) := by simp
    rw [this]; omega) (by omega)
  rw [this, h2]
  simp
set_option maxHeartbeats 4000000 in
set_option maxRecDepth 100000 in
theorem sort_any (v0 : Value) (ps : List (Str × Str)) (w : World) (hv : Prs w v0 ps) (hn : ps.length ≤ 16777216) (hs : ∀ p ∈ ps, p.1.length ≤ 1099511627776 ∧ p.2.length ≤ 1099511627776) :
    Calls Try.prog 12 #[v0] w (SPost w ps) := by
  have hlen := rd_len ps
  obtain ⟨i0, hi, hz0, hz1, hz2⟩ := info_parts int_info
  have m50 := make_any 50 51 _ _ (rd ps).1.length Try.underlying50 ints_info (by omega) (by omega)
  have m51 := make_any 51 3 _ _ (rd ps).1.length Try.underlying51 int_info (by omega) (by omega)
  have m52 := make_any 52 4 _ _ (rd ps).1.length Try.underlying52 bool_info (by omega) (by omega)
  have m53 := @run_makeMap Try.prog
  go_enter Try.func12, Try.ntmps12
  go_wp2_with (go_at_call 23
               refine (read_any v0 ps w hv hn hs).mono ?_
               rintro e w1 ⟨vn, ed, rfl, hgr, hed, hap, hb1⟩
               obtain ⟨na, nc, rfl, hnc1, hnc2⟩ := shape hgr.names
               obtain ⟨ea, ec, rfl, hec1, hec2⟩ := shape hed
               have c0 : w1.cell? ⟨w.heap.size + 1, 0, none⟩ = some (.slice na (rd ps).1.length nc) := row_cell hgr.cells 0)
  refine make_region _ _ (rd ps).1.length _ _ _ (.pointer (some ⟨w.heap.size + 1, 0, none⟩)) (.slice ea (rd ps).2.length ec) _ _ _ _ rfl rfl ?_ rfl rfl rfl m50 m51 m52 _ _ ?_
  · simp
  intro ib ob nb db mb sb x wx hMade
  obtain ⟨eb, heb1, heb0, hE⟩ := edges_at w.heap.size hed
  have hw1 := hgr.room
  obtain ⟨gb, hN1, hgb1, hgb0, hgblt⟩ := nms_of hgr hap
  have heb : eb < w1.heap.size := by
    by_cases he : (rd ps).2 = []
    · rw [heb0 he]; omega
    · exact (heb1 he).2.2
  have hBd := Bd.start hMade heb hE
  have hends := rd_ends ps
  have hwf : Wf (rd ps).2 (rd ps).1.length := rd_wf ps
  have hBx := hMade.below
  have HMade := Lib.hid hMade
  have HE1 := Lib.hid heb1
  have HE0 := Lib.hid heb0
  clear hMade heb1 heb0 hE m50 m51 m52 m53
  generalize hst : rd ps = st at *
  obtain ⟨ls, E⟩ := st
  simp only at hBd hends hlen hnc1 hec1
  go_wp2
  go_loopw [46] (fun i wr => ∃ (k : Nat) (val : Bool → Nat → Value) (lst : Bool → Nat → List Nat) (nd : Nat → Nat), k ≤ E.length ∧ i = .int .i64 k ∧ Bd ⟨sb, ib, ob, nb, db, mb, eb, wx.heap.size⟩ ls.length (.pointer (some ⟨w.heap.size + 1, 0, none⟩)) (.slice ea E.length ec) E val lst nd wr ∧
      (∀ j, lst false j = Topo.into (E.take k) j) ∧ (∀ j, lst true j = Topo.outof (E.take k) j) ∧ (∀ j, nd j = (Topo.into (E.take k) j).length) ∧ Below w1.heap.size w1 wr) (fun i _ => E.length - (intOf i).toNat)
  case atStart => exact ⟨0, _, _, _, Nat.zero_le _, rfl, hBd, fun j => rfl, fun j => rfl, fun j => rfl, hBx⟩
  case round =>
    obtain ⟨k, val, lst, nd, hk, rfl, hB, hl0, hl1, hnd, hb⟩ := hrel
    by_cases hlt : k < E.length
    · obtain ⟨e, he⟩ : ∃ e, E[k]? = some e := ⟨E[k], List.getElem?_eq_getElem hlt⟩
      have hee := hends e (List.mem_of_getElem? he)
      obtain ⟨k0, k1, k2, -⟩ := hB.edge k e he
      have hea := (HE1.out (by intro h; rw [h] at hlt; simp at hlt)).1
      have hki : (k : Int) < (E.length : Int) := by omega
      have hP := heap_alloc_new wr (.cells #[.int .i64 (e.1 : Nat), .int .i64 (e.2 : Nat), .bool false] 57)
      have hB2 := hB.keep (w' := wr.alloc (.cells #[.int .i64 (e.1 : Nat), .int .i64 (e.2 : Nat), .bool false] 57)) (by simp) (fun q hq => Below.heap_alloc wr _ q hq)
      have hb2 := hb.alloc hb.size (.cells #[.int .i64 (e.1 : Nat), .int .i64 (e.2 : Nat), .bool false] 57)
      obtain ⟨t1, t2, t3, t4, t5, t6, t7⟩ := hB.lt
      have hroom : wx.heap.size ≤ wr.heap.size := hB.room
      have hvP : ∀ q, (val false e.2).ownBlock = some q → q < wr.heap.size := fun q hq => (hB.fam.lt false e.2 hee.2 q hq).2
      have hvQ : ∀ q, (val true e.1).ownBlock = some q → q < wr.heap.size := fun q hq => (hB.fam.lt true e.1 hee.1 q hq).2
      have HB := Lib.hid hB
      clear hB
      subst hea
      have hPw : wr.heap.size < (wr.alloc (.cells #[.int .i64 (e.1 : Nat), .int .i64 (e.2 : Nat), .bool false] 57)).heap.size := by simp
      generalize hPs : wr.heap.size = P at *
      go_wp2_with fail
      generalize wr.alloc (.cells #[.int .i64 (e.1 : Nat), .int .i64 (e.2 : Nat), .bool false] 57) = w2 at *
      have q2 : w2.cell? ⟨sb, 2, none⟩ = some (.slice (some ⟨ib, 0, none⟩) ls.length ls.length) := row_cell hB2.srt 2
      have p1 : w2.cell? ⟨P, 1, none⟩ = some (.int .i64 (e.2 : Nat)) := row_cell hP 1
      obtain ⟨i0c, i0f⟩ := hB2.ics e.2 hee.2
      have hown := hB2.fam.own false e.2 hee.2
      have hto : (e.2 : Int) < (ls.length : Int) := by omega
      have hll : (lst false e.2).length ≤ E.length := by rw [hl0]; exact Nat.le_trans (idxs_length _ _) (by simp; omega)
      have hvlt : ∀ q, (val false e.2).ownBlock = some q → wx.heap.size ≤ q ∧ q < w2.heap.size := hB2.fam.lt false e.2 hee.2
      have hr2 : wx.heap.size ≤ w2.heap.size := hB2.room
      have hibw : ib < w2.heap.size := Nat.lt_of_lt_of_le t2 hr2
      have hib : ib < wx.heap.size := t2
      have hsbx : sb < wx.heap.size := t1
      have hsbw : sb < w2.heap.size := Nat.lt_of_lt_of_le t1 hr2
      have hnib := World.new_ne w2 _ i0c
      have hnsb := World.new_ne w2 _ q2
      have hnP := World.new_ne w2 _ p1
      have hPlt : P < w2.heap.size := hPw
      obtain ⟨a1, a2, a3, a4, a5, a6, a7, a8, a9, a10, a11, a12, a13, a14, a15⟩ := hB2.apart
      refine app_regionA _ _ ls.length sb P ib wx.heap.size e.2 k (val false e.2) (lst false e.2) (by exact Nat.le_of_ble_eq_true rfl) rfl rfl rfl q2 p1 i0c i0f hown t1 t2 (fun h => by have := hvP P h; omega) hr2 hee.2 (by omega) _ _ ?_
      intro g cap w3 x hown3 hs3 hk3 hat3 hlt3
      have hB3 := hB2.into hee.2 hs3.size hown3 hk3 hat3 (Nat.le_succ _)
      have hP3 : (w3.setCell ⟨ib, e.2, none⟩ (.slice (some ⟨g, 0, none⟩) ((lst false e.2).length + 1) cap)).heap[P]? = some (.cells #[.int .i64 (e.1 : Nat), .int .i64 (e.2 : Nat), .bool false] 57 (0, 0)) := (Below.heap_setCell _ _ _ _ (by show P ≠ ib; omega)).trans ((hk3 P hPlt (fun h => by have := hvP P h; omega)).trans hP)
      have hb3 := (hb2.trans (hs3.mono (B' := w1.heap.size) hBx.size)).setCell (p := ⟨ib, e.2, none⟩) (by show w1.heap.size ≤ ib; exact HMade.out.old.1) (.slice (some ⟨g, 0, none⟩) ((lst false e.2).length + 1) cap)
      have hsz3 : P < (w3.setCell ⟨ib, e.2, none⟩ (.slice (some ⟨g, 0, none⟩) ((lst false e.2).length + 1) cap)).heap.size := by have := hs3.size; simp [World.setCell]; omega
      clear hB2 hk3 hown3 hs3 i0c i0f hown hnib hnsb hnP hvlt q2 p1 hP hibw hsbw
      generalize w3.setCell ⟨ib, e.2, none⟩ (.slice (some ⟨g, 0, none⟩) ((lst false e.2).length + 1) cap) = w4 at *
      go_wp2_with fail
      have q3 : w4.cell? ⟨sb, 3, none⟩ = some (.slice (some ⟨ob, 0, none⟩) ls.length ls.length) := row_cell hB3.srt 3
      have p3 : w4.cell? ⟨P, 0, none⟩ = some (.int .i64 (e.1 : Nat)) := row_cell hP3 0
      obtain ⟨o0c, o0f⟩ := hB3.ocs e.1 hee.1
      have hown4 := hB3.fam.own true e.1 hee.1
      rw [upd_other _ _ _ _ _ _ (by simp)] at o0c
      rw [upd_other _ _ _ _ _ _ (by simp), upd_other _ _ _ _ _ _ (by simp)] at hown4
      have hll1 : (lst true e.1).length ≤ E.length := by rw [hl1]; exact Nat.le_trans (idxs_length _ _) (by simp; omega)
      refine app_regionB _ _ ls.length sb P ob wx.heap.size e.1 k (val true e.1) (lst true e.1) (by exact Nat.le_of_ble_eq_true rfl) rfl rfl rfl q3 p3 o0c o0f hown4 t1 t3 (fun h => by have := hvQ P h; omega) hB3.room hee.1 (by omega) _ _ ?_
      intro g2 cap2 w5 x2 hown5 hs5 hk5 hat5 hlt5
      have hB5 := hB3.outof (i := k) (g := g2) (cap := cap2) (w1 := w5) hee.1 hs5.size (by rw [upd_other _ _ _ _ _ _ (by simp)]; exact hown5) (by rw [upd_other _ _ _ _ _ _ (by simp)]; exact hk5) (by rw [upd_other _ _ _ _ _ _ (by simp)]; exact hat5) (Nat.le_succ _)
      rw [upd_other _ _ _ _ _ _ (by simp)] at hB5
      have hP5 : (w5.setCell ⟨ob, e.1, none⟩ (.slice (some ⟨g2, 0, none⟩) ((lst true e.1).length + 1) cap2)).heap[P]? = some (.cells #[.int .i64 (e.1 : Nat), .int .i64 (e.2 : Nat), .bool false] 57 (0, 0)) := (Below.heap_setCell _ _ _ _ (by show P ≠ ob; omega)).trans ((hk5 P hsz3 (fun h => by have := hvQ P h; omega)).trans hP3)
      have hb5 := (hb3.trans (hs5.mono (B' := w1.heap.size) hBx.size)).setCell (p := ⟨ob, e.1, none⟩) (by show w1.heap.size ≤ ob; exact HMade.out.old.2.1) (.slice (some ⟨g2, 0, none⟩) ((lst true e.1).length + 1) cap2)
      clear hB3 hk5 hown5 hs5 o0c o0f hown4 q3 p3 hP3
      generalize w5.setCell ⟨ob, e.1, none⟩ (.slice (some ⟨g2, 0, none⟩) ((lst true e.1).length + 1) cap2) = w6 at *
      have q4 : w6.cell? ⟨sb, 4, none⟩ = some (.slice (some ⟨nb, 0, none⟩) ls.length ls.length) := row_cell hB5.srt 4
      have p4 : w6.cell? ⟨P, 1, none⟩ = some (.int .i64 (e.2 : Nat)) := row_cell hP5 1
      obtain ⟨n0c, n0f⟩ := hB5.ncs e.2 hee.2
      have hto : (e.2 : Int) < (ls.length : Int) := by omega
      have hnd2 : nd e.2 ≤ E.length := by rw [hnd]; exact Nat.le_trans (idxs_length _ _) (by simp; omega)
      have hEl : E.length ≤ 16777216 := by omega
      have HND := Lib.hid hnd
      clear hnd
      have hB7 := hB5.count e.2 (nd e.2 + 1)
      have hb7 := hb5.setCell (p := ⟨nb, e.2, none⟩) (by show w1.heap.size ≤ nb; exact HMade.out.old.2.2.1) (.int .i64 ((nd e.2 + 1 : Nat) : Int))
      have hw7 : w6.setCell ⟨nb, e.2, none⟩ (.int .i64 ((nd e.2 : Int) + 1)) = w6.setCell ⟨nb, e.2, none⟩ (.int .i64 ((nd e.2 + 1 : Nat) : Int)) := by simp
      rw [← hw7] at hB7 hb7
      have HB7 := Lib.hid hB7
      have HB5 := Lib.hid hB5
      clear hB7 hB5 hw7
      go_wp2_with fail
      go_region
      go_wp2
      have hE1 : E.take (k + 1) = E.take k ++ [e] := by rw [List.take_add_one, he]; rfl
      have htl : (E.take k).length = k := by simp; omega
      refine ⟨⟨k + 1, _, _, _, by omega, by simp, HB7.out.keep (Nat.le_refl _) (fun _ _ => rfl), ?_, ?_, ?_, hb7.drew⟩, ?_⟩
      · intro j
        rw [hE1, into_snoc, htl, upd_other _ _ _ _ _ _ (by simp)]
        by_cases hj : j = e.2
        · subst hj; rw [upd_same, if_pos rfl, hl0]
        · rw [upd_other _ _ _ _ _ _ (by simp [hj]), if_neg (Ne.symm hj), hl0]; simp
      · intro j
        rw [hE1, outof_snoc, htl]
        by_cases hj : j = e.1
        · subst hj; rw [upd_same, if_pos rfl, hl1]
        · rw [upd_other _ _ _ _ _ _ (by simp [hj]), if_neg (Ne.symm hj), upd_other _ _ _ _ _ _ (by simp), hl1]; simp
      · intro j
        rw [hE1, into_snoc]
        by_cases hj : j = e.2
        · subst hj; rw [if_pos rfl, if_pos rfl, HND.out]; simp
        · rw [if_neg hj, if_neg (Ne.symm hj), HND.out]; simp
      · simp only [intOf]
        omega
    · have hkE : k = E.length := by omega
      subst hkE
      clear hlt
      rename World => wl
      rw [List.take_length] at hl0 hl1 hnd
      obtain ⟨o1, o2, o3, o4, o5, o6⟩ := HMade.out.old
      obtain ⟨a1, a2, a3, a4, a5, a6, a7, a8, a9, a10, a11, a12, a13, a14, a15⟩ := HMade.out.apart
      have hS0 := TOut.Bd.sr hB hl0 hl1 hnd hends (fun h => (HE1.out h).1) (by unfold maxLen; omega) ⟨hec1, hec2⟩ ⟨a15, by omega, by omega⟩ ⟨by omega, by omega⟩ ⟨by omega, by omega, by omega⟩
      have hLow0 := hB.low
      have hgb2 := HE0.out
      have hM0 : MapOk ⟨sb, w.heap.size + 1, eb, ib, ob, nb, db, mb, wx.heap.size, ea, ec, ls.length⟩ wl := map_ok hB.map
      have hN0 := hN1.keep (w' := wl) (hb.block _ (by omega)) (hb.block _ hgblt)
      have hb0 : Below w.heap.size w wl := hb1.trans (hb.mono hb1.size)
      clear hB hl0 hl1 hnd hN1 HMade
      generalize hL : (⟨sb, w.heap.size + 1, eb, ib, ob, nb, db, mb, wx.heap.size, ea, ec, ls.length⟩ : Lay) = L at *
      have hlimB : L.lim ≤ wl.heap.size := hS0.room
      have hE0 : E.length ≤ 16777216 := by omega
      have hgL : L.g = w.heap.size + 1 ∧ L.eb = eb ∧ L.nb = nb ∧ L.db = db ∧ L.mb = mb ∧ L.sb = sb ∧ L.ob = ob ∧ L.lim = wx.heap.size ∧ L.nc = ls.length ∧ L.ea = ea := by subst hL; exact ⟨rfl, rfl, rfl, rfl, rfl, rfl, rfl, rfl, rfl, rfl⟩
      obtain ⟨g1, g2, g3, g4, g5, g6, g7, g8, g9, g10⟩ := hgL
      clear hL
      have HG := Lib.hid hwf
      clear hwf
      subst g2 g3 g4 g5 g6 g7 g10
      obtain ⟨i1, hi1, hy0, hy1, hy2⟩ := info_parts str_info
      obtain ⟨i2, hi2, hx0, hxx1, hxx2⟩ := info_parts strs_info
      have hlsl : ls.length ≤ 33554432 := by omega
      go_wp2_with fail
      go_loopw [2, 3] (fun v2 v3 wm => Main w L E ls gb na nc wl.heap.size v2 v3 wm) (fun v2 v3 _ => (ls.length - sliceLen v2) + (E.length - sliceLen v3))
      case atStart => exact ⟨0, [], Topo.Good.start _ _, fun j hj => by omega, hS0, hM0, by rw [g1]; exact hN0, Out.start _ _, hLow0, Nat.le_refl _, hb0⟩
      case round =>
        rename World => wm
        clear hS0 hM0 hN0 hLow0 hb0 hgr hed hap c0 hBd hb hBx
        obtain ⟨K, cvs, hG, hK, hS, hM, hN, hO, hLow, hBm, hbm⟩ := hrel
        obtain ⟨s, hs0⟩ : ∃ s, run E ls.length K = s := ⟨_, rfl⟩
        rw [hs0] at hG hS hO
        have HS0 := Lib.hid hs0
        clear hs0
        obtain ⟨oa, oc, e2, hoc1, hoc2⟩ := shape hO.order
        obtain ⟨ra, rc, e3, hrc1, hrc2⟩ := shape hO.rows
        rw [List.length_map] at e2 e3 hoc1 hrc1
        subst e2 e3
        have hle := nodup_lt hG.nodup hG.lt
        have hoc3 : oc ≤ 9223372036854775807 := hoc2
        have hrc3 : rc ≤ 9223372036854775807 := hrc2
        by_cases hlt : s.order.length < ls.length
        · have hltI : (s.order.length : Int) < (ls.length : Int) := by omega
          go_wp2_with fail
          go_loopw [103, 10, 11] (fun i f z wk => ∃ k, i = .int .i64 (k : Nat) ∧ k ≤ ls.length ∧ f = .int .i64 (-1) ∧ (∀ y, y < k → (!s.done y && need E s.gone y == 0) = false) ∧ (z = .int .i64 (-1) ∧ (∀ y, y < k → s.done y = true) ∨ ∃ x : Nat, z = .int .i64 (x : Nat) ∧ x < k ∧ s.done x = false ∧ ∀ y, y < x → s.done y = true) ∧ wk = wm) (fun i _ _ _ => ls.length - (intOf i).toNat)
          case atStart => exact ⟨0, rfl, Nat.zero_le _, rfl, fun y hy => by omega, .inl ⟨rfl, fun y hy => by omega⟩, rfl⟩
          case round =>
            rename World => wk
            obtain ⟨k, rfl, hk, rfl, hno, hz, rfl⟩ := hrel
            have hc4 := hS.c4
            have hc5 := hS.c5
            obtain ⟨p1, p2, p3, p4⟩ := hS.bound
            have p2' : L.nc ≤ 9223372036854775807 := p2
            obtain ⟨z1, z2, z3, z4, z5, z6, z7, z8, z9, z10, z11, z12⟩ := hS.apart
            obtain ⟨y1, y2, y3, y4⟩ := hS.below
            obtain ⟨m1, m2, m3, m4, m5, m6⟩ := hS.mapart
            obtain ⟨s1, s2, s3⟩ := hS.sbl
            have hl : (s.order.map (nm ls)).length = s.order.length := List.length_map ..
            have hl2 : (s.cycles.map (List.map (nm ls))).length = s.cycles.length := List.length_map ..
            have hcyE : s.cycles.length ≤ E.length := by have := hG.cnt; omega
            have hoc3 : oc ≤ 9223372036854775807 := hoc2
            have hne0 : ls ≠ [] := by intro h; rw [h] at hlt; simp at hlt
            have hna := hN.here hne0
            subst hna
            have hgE : L.g ≠ L.eb ∧ gb ≠ L.eb := by
              have hge := hgb1 hne0
              by_cases hE : E = []
              · have := hgb2 hE; omega
              · obtain ⟨e1, e2, e3⟩ := HE1.out hE
                rw [e1] at hge
                refine ⟨by omega, fun h => hge.2 ?_⟩
                show some L.eb = some gb
                rw [h]
            have hebw : w.heap.size ≤ L.eb := by
              by_cases hE : E = []
              · have := hgb2 hE; omega
              · have := (HE1.out hE).2.1; omega
            by_cases hkn : k < ls.length
            · have hkI : (k : Int) < (ls.length : Int) := by omega
              obtain ⟨d0, df⟩ := hS.done k hkn
              obtain ⟨n0, nf⟩ := hS.need k hkn
              cases hd : s.done k with
              | true =>
                rw [hd] at d0
                go_wp2
                refine ⟨⟨k + 1, by simp, by omega, rfl, fun y hy => ?_, ?_, trivial⟩, ?_⟩
                · rcases Nat.lt_succ_iff_lt_or_eq.1 hy with h | h
                  · exact hno y h
                  · rw [h, hd]; rfl
                · rcases hz with ⟨rfl, hz⟩ | ⟨x, rfl, hx1, hx2, hx3⟩
                  · refine .inl ⟨rfl, fun y hy => ?_⟩
                    rcases Nat.lt_succ_iff_lt_or_eq.1 hy with h | h
                    · exact hz y h
                    · rw [h, hd]
                  · exact .inr ⟨x, rfl, by omega, hx2, hx3⟩
                · simp only [intOf]
                  omega
              | false =>
                rw [hd] at d0
                by_cases hz0n : need E s.gone k = 0
                · have hz1 : ((need E s.gone k : Nat) : Int) = 0 := by omega
                  rcases hz with ⟨rfl, hz⟩ | ⟨x, rfl, hx1, hx2, hx3⟩
                  · skip
                    have hfree : freeOf E ls.length s.gone s.done = some k := find_is hkn (by simp [hd, hz0n]) hno
                    have hx := nm_at hkn
                    have hS1 := Sr.mark hS k
                    have hLow1 : Low wl.heap.size L ls.length (wk.setCell ⟨L.db, k, none⟩ (.bool true)) := hLow.keep (Below.heap_setCell _ _ _ _ (Ne.symm z11)) (Below.heap_setCell _ _ _ _ (Ne.symm z12))
                    have hN1 := hN.keep (w' := wk.setCell ⟨L.db, k, none⟩ (.bool true)) (Below.heap_setCell _ _ _ _ (by show L.g ≠ L.db; omega)) (Below.heap_setCell _ _ _ _ (by show gb ≠ L.db; omega))
                    have hO1 := hO.keep (w' := wk.setCell ⟨L.db, k, none⟩ (.bool true)) (fun q hq _ => Below.heap_setCell _ _ _ _ (by show q ≠ L.db; omega))
                    have hM1 := map_keep hM (w' := wk.setCell ⟨L.db, k, none⟩ (.bool true)) (Below.heap_setCell _ _ _ _ m6)
                    have hb1 := hbm.setCell (p := ⟨L.db, k, none⟩) (by show w.heap.size ≤ L.db; omega) (.bool true)
                    have hsz1 : (wk.setCell ⟨L.db, k, none⟩ (.bool true)).heap.size ≤ wk.heap.size ∧ wk.heap.size ≤ (wk.setCell ⟨L.db, k, none⟩ (.bool true)).heap.size := by simp [World.setCell]
                    generalize hw2 : wk.setCell ⟨L.db, k, none⟩ (.bool true) = w2 at hS1 hLow1 hN1 hO1 hM1 hb1 hsz1
                    have hor : w2.ownsRow wl.heap.size 9 1 (.slice oa s.order.length oc) s.order.length (cellsOf (s.order.map (nm ls))) := by
                      have := hO1.order
                      rw [hl] at this
                      exact this
                    have c0' := hS1.c0
                    have n0' := hN1.c0
                    rw [g1] at n0'
                    have nk := hN1.cells k _ hx
                    go_wp2_with (at_builtin
                                 go_loud (
                                 refine wpList_append_lies _ rfl _ _ _ rfl wl.heap.size 9 i1 _ 1 16 Try.underlying30 hi1 hy0 hy1 hy2 rfl (by omega) _ s.order.length (cellsOf (s.order.map (nm ls))) rfl (hor.alloc _) ⟨w2.heap.size, 0, none⟩ 1 1 [.string ⟨(nm ls k).toArray⟩] rfl rfl (World.news_of_block (cs := #[.string ⟨(nm ls k).toArray⟩]) (t := 9) (fr := (0, 0)) (heap_alloc_new w2 _)) (by simp [Value.oneCell']) (by omega) (by unfold maxLen; omega) (by omega) (by simp; omega) (w2.heap.size + 1) (by simp) ?_
                                 intro gg cap w3 hown3 hgrow3 hat3 hlt3
                                 have hk3 : ∀ q, q < w2.heap.size → (Value.slice oa s.order.length oc).ownBlock ≠ some q → w3.heap[q]? = w2.heap[q]? := fun q hq hne => (hgrow3.block q (by simp; omega) (Ne.symm hne)).trans (Below.heap_alloc w2 _ q hq)
                                 have hk3B : ∀ q, q < wl.heap.size → w3.heap[q]? = w2.heap[q]? := fun q hq => hk3 q (by omega) (fun e => by have := (hO1.blocks.1 q e).1; omega)
                                 have hsz3 : w2.heap.size ≤ w3.heap.size := Nat.le_trans (by simp) hgrow3.size
                                 have hS3 := TOut.Sr.grow hS1 hLow1 hlimB hsz3 (fun q hq _ => hk3B q hq)
                                 have hO3 := hO1.addOrder (x := nm ls k) (g := gg) (cap := cap) (by rw [hl]; exact hown3) hk3 hat3 (Nat.le_succ _)
                                 rw [hl] at hO3
                                 have hM3 := map_keep hM1 (w' := w3) (hk3B _ (by omega))
                                 have hN3 := hN1.keep (w' := w3) (hk3B _ (by omega)) (hk3B _ (by omega))
                                 have hLow3 := hLow1.keep (w' := w3) (hk3B _ (by omega)) (hk3B _ (by omega))
                                 have hb3 : Below w.heap.size w w3 := (hb1.alloc (by omega) _).grown hgrow3 (by simp; omega) (fun q hq => by have := (hO1.blocks.1 q hq).1; omega)
                                 have c3' := hS3.c3
                                 obtain ⟨vo, hvo, hIv⟩ := hS3.outs k hkn
                                 obtain ⟨ao, co, rfl, ⟨hco1, hco2⟩, hcell⟩ := hIv
                                 have hco3 : co ≤ 9223372036854775807 := hco2))

                    have hHout := idxs_length E (fun e => e.1 == k)
                    have hHout2 : (outof E k).length ≤ E.length := hHout
                    clear hHout hno hz0n
                    generalize hol : outof E k = ol at *
                    have HOL := Lib.hid hol
                    clear hol
                    go_loopw [155] (fun i wq => ∃ q, i = .int .i64 (q : Nat) ∧ q ≤ ol.length ∧ Sr L E ls.length (rems s.gone (ol.take q)) (fun j => s.done j || j == k) wq ∧ (∀ z, z ≠ L.eb → z ≠ L.nb → wq.heap[z]? = w3.heap[z]?) ∧ wq.heap.size = w3.heap.size ∧ Below 0 w3 wq) (fun i _ => ol.length - (intOf i).toNat)
                    case atStart => exact ⟨0, rfl, Nat.zero_le _, hS3, fun _ _ _ => rfl, rfl, Below.refl _ _⟩
                    case round =>
                      rename World => wq
                      obtain ⟨q, rfl, hq, hSq, hkq, hszq, hbq⟩ := hrel
                      by_cases hqn : q < ol.length
                      · have hqI : (q : Int) < (ol.length : Int) := by omega
                        obtain ⟨ei, hei⟩ : ∃ ei, ol[q]? = some ei := ⟨_, List.getElem?_eq_getElem hqn⟩
                        obtain ⟨ob2, rfl, hob1, hob2, hcl⟩ := hcell (by intro h; rw [h] at hqn; simp at hqn)
                        have hci : wq.cell? ⟨ob2, q, none⟩ = some (.int .i64 (ei : Nat)) := (World.cell?_of_block (hkq ob2 (by omega) (by omega))).trans (hcl q ei hei)
                        have heiE : ei < E.length := by
                          have := List.mem_of_getElem? hei
                          rw [← HOL.out] at this
                          exact ((mem_outof E k ei).1 this).1
                        have hrem := remove_any L E ls.length _ _ ei wq hSq heiE (by omega)
                        rw [← rems_snoc s.gone ol q ei hei] at hrem
                        go_wp2_with (go_at_call 24
                                     refine hrem.mono ?_
                                     rintro e w8 ⟨rfl, hS8, hk8, hs8, hb8⟩)
                        refine ⟨⟨q + 1, by simp, by omega, hS8, fun z h1 h2 => (hk8 z h1 h2).trans (hkq z h1 h2), by omega, hbq.trans hb8⟩, ?_⟩
                        simp only [intOf]
                        omega
                      · have hqe : q = ol.length := by omega
                        subst hqe
                        rw [List.take_length] at hSq
                        have hnx : run E ls.length (K + 1) = ⟨rems s.gone ol, fun j => s.done j || j == k, s.order ++ [k], s.cycles⟩ := by
                          show Topo.next E ls.length (run E ls.length K) = _
                          rw [HS0.out]
                          unfold Topo.next
                          rw [hfree, ← HOL.out]
                        have hGn := (hG.next HG.out hlt).1
                        have hKn : ∀ j, j < K + 1 → (run E ls.length j).order.length < ls.length := fun j hj => by
                          rcases Nat.lt_succ_iff_lt_or_eq.1 hj with h | h
                          · exact hK j h
                          · rw [h, HS0.out]; exact hlt
                        have hGn2 : Topo.Good E ls.length (run E ls.length (K + 1)) := by
                          have : run E ls.length (K + 1) = Topo.next E ls.length s := by rw [← HS0.out]; rfl
                          rw [this]
                          exact hGn
                        have hkB : ∀ z, wl.heap.size ≤ z → wq.heap[z]? = w3.heap[z]? := fun z hz => hkq z (by omega) (by omega)
                        have hOq := hO3.keep (w' := wq) (fun z hz _ => hkB z hz)
                        have hMq := map_keep hM3 (w' := wq) (hkq _ m2 m5)
                        have hNq := hN3.keep (w' := wq) (hkq _ hgE.1 (by omega)) (hkq _ hgE.2 (by omega))
                        have hLowq := hLow3.keep (w' := wq) (hkq _ (Ne.symm z3) (Ne.symm z7)) (hkq _ (Ne.symm z4) (Ne.symm z8))
                        have hbQ : Below w.heap.size w wq := ⟨hbq.os.trans hb3.os, hbq.tape.trans hb3.tape, hbq.output.trans hb3.output, Nat.le_trans hb3.size hbq.size, fun z hz => (hkq z (by omega) (by omega)).trans (hb3.block z hz)⟩
                        go_wp2
                        refine ⟨⟨K + 1, cvs, hGn2, hKn, ?_, hMq, hNq, ?_, hLowq, by omega, hbQ⟩, ?_⟩
                        · rw [hnx]
                          exact hSq
                        · rw [hnx]
                          simp only [List.map_append, List.map_cons, List.map_nil]
                          exact hOq
                        · simp only [sliceLen]
                          omega
                  · skip
                    have hfree : freeOf E ls.length s.gone s.done = some k := find_is hkn (by simp [hd, hz0n]) hno
                    have hx := nm_at hkn
                    have hS1 := Sr.mark hS k
                    have hLow1 : Low wl.heap.size L ls.length (wk.setCell ⟨L.db, k, none⟩ (.bool true)) := hLow.keep (Below.heap_setCell _ _ _ _ (Ne.symm z11)) (Below.heap_setCell _ _ _ _ (Ne.symm z12))
                    have hN1 := hN.keep (w' := wk.setCell ⟨L.db, k, none⟩ (.bool true)) (Below.heap_setCell _ _ _ _ (by show L.g ≠ L.db; omega)) (Below.heap_setCell _ _ _ _ (by show gb ≠ L.db; omega))
                    have hO1 := hO.keep (w' := wk.setCell ⟨L.db, k, none⟩ (.bool true)) (fun q hq _ => Below.heap_setCell _ _ _ _ (by show q ≠ L.db; omega))
                    have hM1 := map_keep hM (w' := wk.setCell ⟨L.db, k, none⟩ (.bool true)) (Below.heap_setCell _ _ _ _ m6)
                    have hb1 := hbm.setCell (p := ⟨L.db, k, none⟩) (by show w.heap.size ≤ L.db; omega) (.bool true)
                    have hsz1 : (wk.setCell ⟨L.db, k, none⟩ (.bool true)).heap.size ≤ wk.heap.size ∧ wk.heap.size ≤ (wk.setCell ⟨L.db, k, none⟩ (.bool true)).heap.size := by simp [World.setCell]
                    generalize hw2 : wk.setCell ⟨L.db, k, none⟩ (.bool true) = w2 at hS1 hLow1 hN1 hO1 hM1 hb1 hsz1
                    have hor : w2.ownsRow wl.heap.size 9 1 (.slice oa s.order.length oc) s.order.length (cellsOf (s.order.map (nm ls))) := by
                      have := hO1.order
                      rw [hl] at this
                      exact this
                    have c0' := hS1.c0
                    have n0' := hN1.c0
                    rw [g1] at n0'
                    have nk := hN1.cells k _ hx
                    go_wp2_with (at_builtin
                                 go_loud (
                                 refine wpList_append_lies _ rfl _ _ _ rfl wl.heap.size 9 i1 _ 1 16 Try.underlying30 hi1 hy0 hy1 hy2 rfl (by omega) _ s.order.length (cellsOf (s.order.map (nm ls))) rfl (hor.alloc _) ⟨w2.heap.size, 0, none⟩ 1 1 [.string ⟨(nm ls k).toArray⟩] rfl rfl (World.news_of_block (cs := #[.string ⟨(nm ls k).toArray⟩]) (t := 9) (fr := (0, 0)) (heap_alloc_new w2 _)) (by simp [Value.oneCell']) (by omega) (by unfold maxLen; omega) (by omega) (by simp; omega) (w2.heap.size + 1) (by simp) ?_
                                 intro gg cap w3 hown3 hgrow3 hat3 hlt3
                                 have hk3 : ∀ q, q < w2.heap.size → (Value.slice oa s.order.length oc).ownBlock ≠ some q → w3.heap[q]? = w2.heap[q]? := fun q hq hne => (hgrow3.block q (by simp; omega) (Ne.symm hne)).trans (Below.heap_alloc w2 _ q hq)
                                 have hk3B : ∀ q, q < wl.heap.size → w3.heap[q]? = w2.heap[q]? := fun q hq => hk3 q (by omega) (fun e => by have := (hO1.blocks.1 q e).1; omega)
                                 have hsz3 : w2.heap.size ≤ w3.heap.size := Nat.le_trans (by simp) hgrow3.size
                                 have hS3 := TOut.Sr.grow hS1 hLow1 hlimB hsz3 (fun q hq _ => hk3B q hq)
                                 have hO3 := hO1.addOrder (x := nm ls k) (g := gg) (cap := cap) (by rw [hl]; exact hown3) hk3 hat3 (Nat.le_succ _)
                                 rw [hl] at hO3
                                 have hM3 := map_keep hM1 (w' := w3) (hk3B _ (by omega))
                                 have hN3 := hN1.keep (w' := w3) (hk3B _ (by omega)) (hk3B _ (by omega))
                                 have hLow3 := hLow1.keep (w' := w3) (hk3B _ (by omega)) (hk3B _ (by omega))
                                 have hb3 : Below w.heap.size w w3 := (hb1.alloc (by omega) _).grown hgrow3 (by simp; omega) (fun q hq => by have := (hO1.blocks.1 q hq).1; omega)
                                 have c3' := hS3.c3
                                 obtain ⟨vo, hvo, hIv⟩ := hS3.outs k hkn
                                 obtain ⟨ao, co, rfl, ⟨hco1, hco2⟩, hcell⟩ := hIv
                                 have hco3 : co ≤ 9223372036854775807 := hco2))

                    have hHout := idxs_length E (fun e => e.1 == k)
                    have hHout2 : (outof E k).length ≤ E.length := hHout
                    clear hHout hno hz0n
                    generalize hol : outof E k = ol at *
                    have HOL := Lib.hid hol
                    clear hol
                    go_loopw [155] (fun i wq => ∃ q, i = .int .i64 (q : Nat) ∧ q ≤ ol.length ∧ Sr L E ls.length (rems s.gone (ol.take q)) (fun j => s.done j || j == k) wq ∧ (∀ z, z ≠ L.eb → z ≠ L.nb → wq.heap[z]? = w3.heap[z]?) ∧ wq.heap.size = w3.heap.size ∧ Below 0 w3 wq) (fun i _ => ol.length - (intOf i).toNat)
                    case atStart => exact ⟨0, rfl, Nat.zero_le _, hS3, fun _ _ _ => rfl, rfl, Below.refl _ _⟩
                    case round =>
                      rename World => wq
                      obtain ⟨q, rfl, hq, hSq, hkq, hszq, hbq⟩ := hrel
                      by_cases hqn : q < ol.length
                      · have hqI : (q : Int) < (ol.length : Int) := by omega
                        obtain ⟨ei, hei⟩ : ∃ ei, ol[q]? = some ei := ⟨_, List.getElem?_eq_getElem hqn⟩
                        obtain ⟨ob2, rfl, hob1, hob2, hcl⟩ := hcell (by intro h; rw [h] at hqn; simp at hqn)
                        have hci : wq.cell? ⟨ob2, q, none⟩ = some (.int .i64 (ei : Nat)) := (World.cell?_of_block (hkq ob2 (by omega) (by omega))).trans (hcl q ei hei)
                        have heiE : ei < E.length := by
                          have := List.mem_of_getElem? hei
                          rw [← HOL.out] at this
                          exact ((mem_outof E k ei).1 this).1
                        have hrem := remove_any L E ls.length _ _ ei wq hSq heiE (by omega)
                        rw [← rems_snoc s.gone ol q ei hei] at hrem
                        go_wp2_with (go_at_call 24
                                     refine hrem.mono ?_
                                     rintro e w8 ⟨rfl, hS8, hk8, hs8, hb8⟩)
                        refine ⟨⟨q + 1, by simp, by omega, hS8, fun z h1 h2 => (hk8 z h1 h2).trans (hkq z h1 h2), by omega, hbq.trans hb8⟩, ?_⟩
                        simp only [intOf]
                        omega
                      · have hqe : q = ol.length := by omega
                        subst hqe
                        rw [List.take_length] at hSq
                        have hnx : run E ls.length (K + 1) = ⟨rems s.gone ol, fun j => s.done j || j == k, s.order ++ [k], s.cycles⟩ := by
                          show Topo.next E ls.length (run E ls.length K) = _
                          rw [HS0.out]
                          unfold Topo.next
                          rw [hfree, ← HOL.out]
                        have hGn := (hG.next HG.out hlt).1
                        have hKn : ∀ j, j < K + 1 → (run E ls.length j).order.length < ls.length := fun j hj => by
                          rcases Nat.lt_succ_iff_lt_or_eq.1 hj with h | h
                          · exact hK j h
                          · rw [h, HS0.out]; exact hlt
                        have hGn2 : Topo.Good E ls.length (run E ls.length (K + 1)) := by
                          have : run E ls.length (K + 1) = Topo.next E ls.length s := by rw [← HS0.out]; rfl
                          rw [this]
                          exact hGn
                        have hkB : ∀ z, wl.heap.size ≤ z → wq.heap[z]? = w3.heap[z]? := fun z hz => hkq z (by omega) (by omega)
                        have hOq := hO3.keep (w' := wq) (fun z hz _ => hkB z hz)
                        have hMq := map_keep hM3 (w' := wq) (hkq _ m2 m5)
                        have hNq := hN3.keep (w' := wq) (hkq _ hgE.1 (by omega)) (hkq _ hgE.2 (by omega))
                        have hLowq := hLow3.keep (w' := wq) (hkq _ (Ne.symm z3) (Ne.symm z7)) (hkq _ (Ne.symm z4) (Ne.symm z8))
                        have hbQ : Below w.heap.size w wq := ⟨hbq.os.trans hb3.os, hbq.tape.trans hb3.tape, hbq.output.trans hb3.output, Nat.le_trans hb3.size hbq.size, fun z hz => (hkq z (by omega) (by omega)).trans (hb3.block z hz)⟩
                        go_wp2
                        refine ⟨⟨K + 1, cvs, hGn2, hKn, ?_, hMq, hNq, ?_, hLowq, by omega, hbQ⟩, ?_⟩
                        · rw [hnx]
                          exact hSq
                        · rw [hnx]
                          simp only [List.map_append, List.map_cons, List.map_nil]
                          exact hOq
                        · simp only [sliceLen]
                          omega
                · have hz1 : ((need E s.gone k : Nat) : Int) ≠ 0 := by omega
                  have hz2 : ((need E s.gone k : Nat) == (0 : Nat)) = false := by simpa using hz0n
                  rcases hz with ⟨rfl, hz⟩ | ⟨x, rfl, hx1, hx2, hx3⟩
                  · go_wp2
                    refine ⟨⟨k + 1, by simp, by omega, rfl, fun y hy => ?_, .inr ⟨k, rfl, by omega, hd, hz⟩, trivial⟩, ?_⟩
                    · rcases Nat.lt_succ_iff_lt_or_eq.1 hy with h | h
                      · exact hno y h
                      · rw [h, hz2]; simp
                    · simp only [intOf]
                      omega
                  · go_wp2
                    refine ⟨⟨k + 1, by simp, by omega, rfl, fun y hy => ?_, .inr ⟨x, rfl, by omega, hx2, hx3⟩, trivial⟩, ?_⟩
                    · rcases Nat.lt_succ_iff_lt_or_eq.1 hy with h | h
                      · exact hno y h
                      · rw [h, hz2]; simp
                    · simp only [intOf]
                      omega
            · have hke : k = ls.length := by omega
              subst hke
              have hfree : freeOf E ls.length s.gone s.done = none := find_no hno
              obtain ⟨x, rfl, hx1, hx2, hx3⟩ : ∃ x : Nat, u11 = .int .i64 (x : Nat) ∧ x < ls.length ∧ s.done x = false ∧ ∀ y, y < x → s.done y = true := by
                rcases hz with ⟨-, hz⟩ | h
                · exfalso
                  obtain ⟨x, h1, h2, h3⟩ := first_some hG hlt
                  rw [hz x h2] at h3
                  cases h3
                · exact h
              have hfirst : firstOf ls.length s.done = some x := find_is hx1 (by simp [hx2]) (fun y hy => by simp [hx3 y hy])
              obtain ⟨hring, hcl2, hcz⟩ := cyc_ring HG.out hG hfree hx1 hx2
              have hcy := cycle_any L E ls.length s.gone s.done x wk hS hx1 hM (by omega)
              obtain ⟨m, hm⟩ : ∃ m, (cyc E ls.length s.gone x).length = m + 1 := ⟨(cyc E ls.length s.gone x).length - 1, by omega⟩
              rw [hm] at hcy hcl2
              have hlast := lastD_get _ hring.1
              have hhead := headD_get _ hring.1
              rw [hm, Nat.add_sub_cancel] at hlast
              generalize hcc : cyc E ls.length s.gone x = c at *
              have hla := hcz _ (List.mem_of_getElem? hlast)
              generalize hlae : c.getLastD 0 = la at *
              generalize hhde : c.headD 0 = h0 at *
              have hmn : m + 1 ≤ ls.length := by rw [← hm]; exact nodup_lt hring.2.1 hcz
              have HCC := Lib.hid hcc
              have HLA := Lib.hid hlae
              have HHD := Lib.hid hhde
              have HRING := Lib.hid hring
              clear hcc hlae hhde hno hx3 hring
              go_wp2_with (go_at_call 25
                           refine hcy.mono ?_
                           rintro e w5 ⟨gc, cc, rfl, hcr, hgr5, hM5, -⟩
                           obtain ⟨-, hgc1, hgc2, hcc1, hcc2, hcell⟩ := ints_cells hcr
                           have hcc3 : cc ≤ 9223372036854775807 := hcc2
                           have hk5 : ∀ q, q < wk.heap.size → q ≠ L.mb → w5.heap[q]? = wk.heap[q]? := fun q hq hne => hgr5.block q hq (fun e => hne (by injection e))
                           have hsz5 := hgr5.size
                           have hS5 := hS.other hsz5 hk5
                           have hN5 := hN.keep (w' := w5) (hk5 _ (by omega) (by omega)) (hk5 _ (by omega) (by omega))
                           have hO5 := hO.keep (w' := w5) (fun q hq hq2 => hk5 q hq2 (by omega))
                           have hLow5 := hLow.keep (w' := w5) (hk5 _ (by omega) (Ne.symm m3)) (hk5 _ (by omega) (Ne.symm m4))
                           have hb5 : Below w.heap.size w w5 := hbm.grown hgr5 hbm.size (fun q hq => by injection hq with hq; omega)
                           have c0' := hS5.c0
                           have n0' := hN5.c0
                           rw [g1] at n0')
              go_loopw [168, 16] (fun i v wq => ∃ q, i = .int .i64 (q : Nat) ∧ q ≤ m + 1 ∧ wq.ownsRow w5.heap.size 9 1 v q (cellsOf ((c.take q).map (nm ls))) ∧ Below w5.heap.size w5 wq) (fun i _ _ => m + 1 - (intOf i).toNat)
              case atStart => exact ⟨0, rfl, Nat.zero_le _, ⟨rfl, .inl ⟨rfl, rfl⟩⟩, Below.refl _ _⟩
              case round =>
                rename World => wq
                obtain ⟨q, rfl, hq, hvr, hbq⟩ := hrel
                have hsbl : L.sb < w5.heap.size := by omega
                by_cases hqn : q < m + 1
                · have hqI : (q : Int) < ((m : Nat) : Int) + 1 := by omega
                  obtain ⟨ci, hci⟩ : ∃ ci, c[q]? = some ci := ⟨_, List.getElem?_eq_getElem (by omega)⟩
                  have hcin := hcz ci (List.mem_of_getElem? hci)
                  have hciI : (ci : Int) < (ls.length : Int) := by omega
                  have hcw : wq.cell? ⟨gc, q, none⟩ = some (.int .i64 (ci : Nat)) := (hbq.cell (p := ⟨gc, q, none⟩) hgc2).trans (hcell q ci hci)
                  have c0q : wq.cell? ⟨L.sb, 0, none⟩ = some (.pointer (some ⟨L.g, 0, none⟩)) := (hbq.cell (p := ⟨L.sb, 0, none⟩) hsbl).trans c0'
                  have n0q : wq.cell? ⟨w.heap.size + 1, 0, none⟩ = some (.slice (some ⟨gb, 0, none⟩) ls.length nc) := (hbq.cell (p := ⟨w.heap.size + 1, 0, none⟩) (by show w.heap.size + 1 < w5.heap.size; omega)).trans n0'
                  have nkq : wq.cell? ⟨gb, ci, none⟩ = some (.string ⟨(nm ls ci).toArray⟩) := (hbq.cell (p := ⟨gb, ci, none⟩) (by show gb < w5.heap.size; omega)).trans (hN5.cells ci _ (nm_at hcin))
                  obtain ⟨va, vc, rfl, hvc1, hvc2⟩ := shape hvr
                  have hvc3 : vc ≤ 9223372036854775807 := hvc2
                  have hszq := hbq.size
                  go_wp2_with (at_builtin
                               refine wpList_append_lies _ rfl _ _ _ rfl w5.heap.size 9 i1 _ 1 16 Try.underlying30 hi1 hy0 hy1 hy2 rfl (by omega) _ q (cellsOf ((c.take q).map (nm ls))) rfl (hvr.alloc _) ⟨wq.heap.size, 0, none⟩ 1 1 [.string ⟨(nm ls ci).toArray⟩] rfl rfl (World.news_of_block (cs := #[.string ⟨(nm ls ci).toArray⟩]) (t := 9) (fr := (0, 0)) (heap_alloc_new wq _)) (by simp [Value.oneCell']) (by omega) (by unfold maxLen; omega) (by omega) (by simp; omega) (wq.heap.size + 1) (by simp) ?_
                               intro gg cap w6 hown6 hgrow6 hat6 hlt6
                               have hb6 : Below w5.heap.size w5 w6 := (hbq.alloc hszq _).grown hgrow6 (by simp; omega) (fun z hz => (ownsRow_block hvr z hz).1))
                  refine ⟨⟨q + 1, by simp, by omega, ?_, hb6⟩, ?_⟩
                  · rw [List.take_add_one, hci, List.map_append, cellsOf_append]
                    exact hown6
                  · simp only [intOf]
                    omega
                · have hqe : q = m + 1 := by omega
                  subst hqe
                  rw [List.take_of_length_le (by omega)] at hvr
                  obtain ⟨va, vc, rfl, hvc1, hvc2⟩ := shape hvr
                  have hvc3 : vc ≤ 9223372036854775807 := hvc2
                  have hszq := hbq.size
                  have hO6 := hO5.keep (w' := wq) (fun z _ hz => hbq.block z hz)
                  have hrw : wq.ownsRow wl.heap.size 30 1 (.slice ra s.cycles.length rc) s.cycles.length cvs := by
                    have := hO6.rows
                    rw [hl2] at this
                    exact this
                  have hl3 : (c.map (nm ls)).length = m + 1 := by rw [List.length_map, hm]
                  have hvrow : wq.ownsRow wl.heap.size 9 1 (.slice va (m + 1) vc) (c.map (nm ls)).length (cellsOf (c.map (nm ls))) := by
                    rw [hl3]
                    exact ownsRow_mono hvr (by omega)
                  have hfar : ∀ z, (Value.slice va (m + 1) vc).ownBlock = some z → (Value.slice oa s.order.length oc).ownBlock ≠ some z ∧ (Value.slice ra s.cycles.length rc).ownBlock ≠ some z := fun z hz => by
                    have h1 := (ownsRow_block hvr z hz).1
                    exact ⟨fun e => by have := (hO.blocks.1 z e).2; omega, fun e => by have := (hO.blocks.2.1 z e).2; omega⟩
                  go_wp2_with (at_builtin
                               refine wpList_append_lies _ rfl _ _ _ rfl wl.heap.size 30 i2 _ 1 24 Try.underlying31 hi2 hx0 hxx1 hxx2 rfl (by omega) _ s.cycles.length cvs rfl (hrw.alloc _) ⟨wq.heap.size, 0, none⟩ 1 1 [.slice va (m + 1) vc] rfl rfl (World.news_of_block (cs := #[.slice va (m + 1) vc]) (t := 30) (fr := (0, 0)) (heap_alloc_new wq _)) (by simp [Value.oneCell']) (by omega) (by unfold maxLen; omega) (by omega) (by simp; omega) (wq.heap.size + 1) (by simp) ?_
                               intro g7 cap7 w7 hown7 hgrow7 hat7 hlt7
                               have hk7 : ∀ z, z < wq.heap.size → (Value.slice ra s.cycles.length rc).ownBlock ≠ some z → w7.heap[z]? = wq.heap[z]? := fun z hz hne => (hgrow7.block z (by simp; omega) (Ne.symm hne)).trans (Below.heap_alloc wq _ z hz)
                               have hO7 := hO6.addCycle (g := g7) (cap := cap7) hvrow hfar (by rw [hl2]; exact hown7) hk7 hat7 (Nat.le_succ _)
                               rw [hl2] at hO7
                               have hk75 : ∀ z, z < w5.heap.size → (Value.slice ra s.cycles.length rc).ownBlock ≠ some z → w7.heap[z]? = w5.heap[z]? := fun z hz hne => (hk7 z (by omega) hne).trans (hbq.block z hz)
                               have hk7B : ∀ z, z < wl.heap.size → w7.heap[z]? = w5.heap[z]? := fun z hz => hk75 z (by omega) (fun e => by have := (hO.blocks.2.1 z e).1; omega)
                               have hk7c : w7.heap[gc]? = w5.heap[gc]? := hk75 gc hgc2 (fun e => by have := (hO.blocks.2.1 gc e).2; omega)
                               have hsz7 : w5.heap.size ≤ w7.heap.size := by have := hgrow7.size; simp at this; omega
                               have hS7 := TOut.Sr.grow hS5 hLow5 hlimB hsz7 (fun z hz _ => hk7B z hz)
                               have hM7 := map_keep hM5 (w' := w7) (hk7B _ (by omega))
                               have hN7 := hN5.keep (w' := w7) (hk7B _ (by omega)) (hk7B _ (by omega))
                               have hLow7 := hLow5.keep (w' := w7) (hk7B _ (by omega)) (hk7B _ (by omega))
                               have hb7 : Below w.heap.size w w7 := ((hb5.trans (hbq.mono hb5.size)).alloc (by omega) _).grown hgrow7 (by simp; omega) (fun z hz => by have := (hO.blocks.2.1 z hz).1; omega)
                               have c3' := hS7.c3
                               have hl7 : w7.cell? ⟨gc, m, none⟩ = some (.int .i64 (la : Nat)) := (World.cell?_of_block hk7c).trans (hcell m la hlast)
                               have hh7 : w7.cell? ⟨gc, 0, none⟩ = some (.int .i64 (h0 : Nat)) := (World.cell?_of_block hk7c).trans (hcell 0 h0 hhead)
                               obtain ⟨vo, hvo, hIv⟩ := hS7.outs la hla
                               obtain ⟨ao, co, rfl, ⟨hco1, hco2⟩, hcello⟩ := hIv
                               have hco3 : co ≤ 9223372036854775807 := hco2
                               have hlaI : (la : Int) < (ls.length : Int) := by omega
                               clear hS hN hO hM hLow hS5 hN5 hO5 hM5 hLow5 hO6 c0' n0' hb5 hcr hcy hgr5 hk5 hvr hbq hrw hvrow hfar hgrow7 hk7 hk75)
                  go_quiet (fail)
                  have hHout2 : (outof E la).length ≤ E.length := idxs_length E (fun e => e.1 == la)
                  generalize hol : outof E la = ol at *
                  have HOL := Lib.hid hol
                  clear hol
                  go_wp2_with fail
                  go_loopw [203] (fun i wz => ∃ q, i = .int .i64 (q : Nat) ∧ q ≤ ol.length ∧ Sr L E ls.length (rems s.gone ((ol.take q).filter fun i => (E.getD i (0, 0)).2 == h0)) s.done wz ∧ (∀ z, z ≠ L.eb → z ≠ L.nb → wz.heap[z]? = w7.heap[z]?) ∧ wz.heap.size = w7.heap.size ∧ Below 0 w7 wz) (fun i _ => ol.length - (intOf i).toNat)
                  case atStart => exact ⟨0, rfl, Nat.zero_le _, TOut.Sr.drewN hS7 _, fun _ _ _ => rfl, rfl, Base.below_drewN (Below.refl _ _) _⟩
                  case round =>
                    rename World => wz
                    obtain ⟨q, rfl, hq, hSz, hkz, hszz, hbz⟩ := hrel
                    have hlz : wz.cell? ⟨gc, m, none⟩ = some (.int .i64 (la : Nat)) := (World.cell?_of_block (hkz gc (by omega) (by omega))).trans hl7
                    have hhz : wz.cell? ⟨gc, 0, none⟩ = some (.int .i64 (h0 : Nat)) := (World.cell?_of_block (hkz gc (by omega) (by omega))).trans hh7
                    by_cases hqn : q < ol.length
                    · have hqI : (q : Int) < (ol.length : Int) := by omega
                      obtain ⟨ei, hei⟩ : ∃ ei, ol[q]? = some ei := ⟨_, List.getElem?_eq_getElem hqn⟩
                      obtain ⟨ob2, rfl, hob1, hob2, hcl⟩ := hcello (by intro h; rw [h] at hqn; simp at hqn)
                      have hci : wz.cell? ⟨ob2, q, none⟩ = some (.int .i64 (ei : Nat)) := (World.cell?_of_block (hkz ob2 (by omega) (by omega))).trans (hcl q ei hei)
                      have heiE : ei < E.length := by
                        have := List.mem_of_getElem? hei
                        rw [← HOL.out] at this
                        exact ((mem_outof E la ei).1 this).1
                      have heiI : (ei : Int) < (E.length : Int) := by omega
                      obtain ⟨e, he⟩ : ∃ e, E[ei]? = some e := ⟨_, List.getElem?_eq_getElem heiE⟩
                      have hgd : E.getD ei (0, 0) = e := by rw [List.getD_eq_getElem?_getD, he]; rfl
                      obtain ⟨e0, e1, e2', ef⟩ := hSz.edge ei e he
                      have c1z := hSz.c1
                      have hLea := hSz.ea (by intro h; rw [h] at heiE; simp at heiE)
                      rw [hLea] at c1z
                      clear hLea
                      have hsn := filter_snoc ol (fun i => (E.getD i (0, 0)).2 == h0) q ei hei
                      simp only [hgd] at hsn
                      by_cases hto : e.2 = h0
                      · have htoB : ((e.2 : Int) == (h0 : Int)) = true := by rw [hto]; simp
                        have hrs : rems s.gone ((ol.take (q + 1)).filter fun i => (E.getD i (0, 0)).2 == h0) = rem (rems s.gone ((ol.take q).filter fun i => (E.getD i (0, 0)).2 == h0)) ei := by
                          rw [hsn, hto]
                          simp [rems, List.foldl_append]
                        have HRS := Lib.hid hrs
                        clear hsn hrs hgd
                        go_wp2_with fail
                        go_quiet (fail)
                        go_wp2_with (go_at_call 24
                                     with_reducible refine (remove_any L E ls.length _ _ ei _ (TOut.Sr.drewN hSz _) heiE (by omega)).mono ?_
                                     rintro e8 w8 ⟨rfl, hS8, hk8, hs8, hb8⟩)
                        refine ⟨⟨q + 1, by simp, by omega, by rw [HRS.out]; exact hS8, fun z h1 h2 => (hk8 z h1 h2).trans (hkz z h1 h2), hs8.trans hszz, (Base.below_drewN hbz _).trans hb8⟩, ?_⟩
                        simp only [intOf]
                        omega
                      · have htoB : ((e.2 : Int) == (h0 : Int)) = false := by simp; omega
                        have hrs : rems s.gone ((ol.take (q + 1)).filter fun i => (E.getD i (0, 0)).2 == h0) = rems s.gone ((ol.take q).filter fun i => (E.getD i (0, 0)).2 == h0) := by
                          rw [hsn, if_neg (by simpa using hto), List.append_nil]
                        have HRS := Lib.hid hrs
                        clear hsn hrs hgd
                        go_wp2_with fail
                        go_quiet (fail)
                        go_wp2_with fail
                        refine ⟨⟨q + 1, by simp, by omega, by rw [HRS.out]; exact TOut.Sr.drewN hSz _, fun z h1 h2 => hkz z h1 h2, hszz, Base.below_drewN hbz _⟩, ?_⟩
                        simp only [intOf]
                        omega
                    · have hqe : q = ol.length := by omega
                      subst hqe
                      rw [List.take_length] at hSz
                      have hnx : run E ls.length (K + 1) = ⟨rems s.gone (ol.filter fun i => (E.getD i (0, 0)).2 == h0), s.done, s.order, s.cycles ++ [c]⟩ := by
                        show Topo.next E ls.length (run E ls.length K) = _
                        rw [HS0.out]
                        unfold Topo.next
                        rw [hfree, hfirst]
                        simp only [Option.getD_some, HCC.out, HLA.out, HHD.out, HOL.out]
                      have hGn := (hG.next HG.out hlt).1
                      have hcnt := (hG.next HG.out hlt).2
                      have hKn : ∀ j, j < K + 1 → (run E ls.length j).order.length < ls.length := fun j hj => by
                        rcases Nat.lt_succ_iff_lt_or_eq.1 hj with h | h
                        · exact hK j h
                        · rw [h, HS0.out]; exact hlt
                      have hsx : run E ls.length (K + 1) = Topo.next E ls.length s := by rw [← HS0.out]; rfl
                      have hcy1 : s.cycles.length < E.length := by
                        rw [← hsx, hnx] at hcnt
                        simp at hcnt
                        exact hcnt
                      have hGn2 : Topo.Good E ls.length (run E ls.length (K + 1)) := by
                        rw [hsx]
                        exact hGn
                      have hOz := hO7.keep (w' := wz) (fun z hz _ => hkz z (by omega) (by omega))
                      have hMz := map_keep hM7 (w' := wz) (hkz _ m2 m5)
                      have hNz := hN7.keep (w' := wz) (hkz _ hgE.1 (by omega)) (hkz _ hgE.2 (by omega))
                      have hLowz := hLow7.keep (w' := wz) (hkz _ (Ne.symm z3) (Ne.symm z7)) (hkz _ (Ne.symm z4) (Ne.symm z8))
                      have hbZ : Below w.heap.size w wz := ⟨hbz.os.trans hb7.os, hbz.tape.trans hb7.tape, hbz.output.trans hb7.output, Nat.le_trans hb7.size hbz.size, fun z hz => (hkz z (by omega) (by omega)).trans (hb7.block z hz)⟩
                      go_wp2
                      refine ⟨⟨K + 1, cvs ++ [.slice va (m + 1) vc], hGn2, hKn, ?_, hMz, hNz, ?_, hLowz, by omega, hbZ⟩, ?_⟩
                      · rw [hnx]
                        exact hSz
                      · rw [hnx]
                        simp only [List.map_append, List.map_cons, List.map_nil]
                        exact hOz
                      · simp only [sliceLen]
                        omega
        · have heq : s.order.length = ls.length := by omega
          go_wp2
          go_ret2
          unfold SPost
          rw [hst]
          exact ⟨_, _, K, rfl, by rw [HS0.out]; exact hG, by rw [HS0.out]; exact heq, hK, by rw [HS0.out]; exact hO.strs, by rw [HS0.out]; exact hO.lists3, hbm⟩
end Go.Proofs.Ytlnbkljajocfoaa.TSort
