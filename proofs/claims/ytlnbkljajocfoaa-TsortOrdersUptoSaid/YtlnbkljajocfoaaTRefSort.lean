/- The reference's Sort returns what the sort of numbers says, named. -/
import Derived.Test.YtlnbkljajocfoaaTRefCycle
import Derived.Test.YtlnbkljajocfoaaTSort
import Derived.Test.YtlnbkljajocfoaaTRefStep
import Derived.StillTailTactics
namespace Go.Proofs.Ytlnbkljajocfoaa.TRefSort
open Go Go.RowKit Strs Topo TWords TPairs TGraph TRead TPlace TElems TParse TCons TRefBefore TRefRemove TWithout TRefMath TRefTurn TRefCycle TRefStep TOut TCycle

/-- the state of the reference's loop -/
def RMain (w : World) (E : Edges) (ls : List Str) (v4 v5 v6 v7 : Value) (wm : World) : Prop :=
  ∃ (K : Nat) (cvs : List Value), Topo.Good E ls.length (run E ls.length K) ∧ (∀ j, j < K → (run E ls.length j).order.length < ls.length) ∧
    wm.ownsRow w.heap.size 9 1 v4 (leftS ls (run E ls.length K).done).length (cellsOf (leftS ls (run E ls.length K).done)) ∧ wm.ownsRow w.heap.size 27 2 v5 (openS ls E (run E ls.length K).gone).length (pcells (openS ls E (run E ls.length K).gone)) ∧
    Out w.heap.size v6 v7 ((run E ls.length K).order.map (nm ls)) ((run E ls.length K).cycles.map (List.map (nm ls))) cvs wm ∧
    (∀ q, v4.ownBlock = some q → v6.ownBlock ≠ some q ∧ v7.ownBlock ≠ some q) ∧ (∀ q, v5.ownBlock = some q → v6.ownBlock ≠ some q ∧ v7.ownBlock ≠ some q) ∧ Below w.heap.size w wm
theorem filter_add {α : Type} (p : α → Bool) : ∀ l : List α, (l.filter p).length + (l.filter fun x => !p x).length = l.length
  | [] => rfl
  | x :: l => by
    have := filter_add p l
    rw [List.filter_cons, List.filter_cons]
    cases p x <;> simp <;> omega
theorem left_length {E : Edges} {n : Nat} {s : St} (h : Topo.Good E n s) : (TRefStep.leftN n s.done).length + s.order.length = n := by
  have h1 : ((List.range n).filter fun i => !s.done i).length + ((List.range n).filter fun i => !!s.done i).length = n := by
    have := filter_add (fun i => !s.done i) (List.range n)
    rw [List.length_range] at this
    exact this
  have h2 : ((List.range n).filter fun i => !!s.done i).length = s.order.length := by
    apply Nat.le_antisymm
    · exact sub_len _ _ (List.Pairwise.filter _ List.nodup_range) fun x hx => (h.ords x).1 (by simpa using (List.mem_filter.1 hx).2)
    · exact sub_len _ _ h.nodup fun x hx => List.mem_filter.2 ⟨List.mem_range.2 (h.lt x hx), by simp [(h.ords x).2 hx]⟩
  unfold TRefStep.leftN
  omega
set_option maxHeartbeats 4000000 in
set_option maxRecDepth 100000 in
theorem sort_any (v0 : Value) (ps : List (Str × Str)) (w : World) (hv : Prs w v0 ps) (hn : ps.length ≤ 16777216) :
    Calls Try.prog 13 #[v0] w (SPost w ps) := by
  obtain ⟨i1, hi1, hy0, hy1, hy2⟩ := info_parts str_info
  obtain ⟨i2, hi2, hx0, hx1, hx2⟩ := info_parts strs_info
  have hlen := rd_len ps
  have hwf := rd_wf ps
  have hnd := rd_nodup ps
  have hcr := cons_rd ps
  have HE := Lib.hid (elements_any v0 ps w hv hn)
  have HV := Lib.hid hv
  obtain ⟨a0, cc, rfl, -, -⟩ := hv
  go_enter Try.func13, Try.ntmps13
  go_wp2_with (first
    | (go_at_call 18
       (with_reducible refine HE.out.mono ?_)
       rintro e w1 ⟨v4, rfl, hr4, hb1⟩)
    | (go_at_call 26
       (with_reducible refine (cons_any _ ps w1 (HV.out.below hb1) hn).mono ?_)
       rintro e w2 ⟨v5, rfl, hr5, hb2⟩))
  rw [hcr] at hr5
  have hr4' := ownsRow_keep hr4 (fun q hq => hb2.block q (ownsRow_block hr4 q hq).2)
  have hr5' := ownsRow_mono hr5 hb1.size
  have hb12 : Below w.heap.size w w2 := hb1.trans (hb2.mono hb1.size)
  generalize hst : rd ps = st at *
  obtain ⟨ls, E⟩ := st
  simp only at hlen hwf hnd hr4' hr5'
  have HWF := Lib.hid hwf
  have HND := Lib.hid hnd
  have hlsl : ls.length ≤ 33554432 := by omega
  have hEl : E.length ≤ 16777216 := by omega
  clear hcr hr4 hr5 hwf hnd
  go_loopw [4, 5, 6, 7] (fun v4 v5 v6 v7 wm => RMain w E ls v4 v5 v6 v7 wm) (fun _ _ v6 v7 _ => (ls.length - sliceLen v6) + (E.length - sliceLen v7))
  case atStart =>
    refine ⟨0, [], Topo.Good.start _ _, fun j hj => by omega, ?_, ?_, Out.start _ _, fun q _ => ⟨by simp [Value.ownBlock], by simp [Value.ownBlock]⟩, fun q _ => ⟨by simp [Value.ownBlock], by simp [Value.ownBlock]⟩, hb12⟩
    · show w2.ownsRow w.heap.size 9 1 _ (leftS ls (fun _ => false)).length (cellsOf (leftS ls (fun _ => false)))
      rw [left_start]
      exact hr4'
    · show w2.ownsRow w.heap.size 27 2 _ (openS ls E (fun _ => false)).length (pcells (openS ls E (fun _ => false)))
      rw [open_start]
      exact hr5'
  case round =>
    clear hr4' hr5' hb12 hb1 hb2
    rename World => wm
    obtain ⟨K, cvs, hG, hK, h4, h5, hO, ha4, ha5, hb⟩ := hrel
    obtain ⟨s, hs0⟩ : ∃ s, run E ls.length K = s := ⟨_, rfl⟩
    rw [hs0] at hG h4 h5 hO
    have HS0 := Lib.hid hs0
    clear hs0
    obtain ⟨oa, oc, e2, hoc1, hoc2⟩ := TSort.shape hO.order
    obtain ⟨ra, rc, e3, hrc1, hrc2⟩ := TSort.shape hO.rows
    rw [List.length_map] at e2 e3 hoc1 hrc1
    subst e2 e3
    have hll := left_length hG
    have hlsn : (leftS ls s.done).length = (TRefStep.leftN ls.length s.done).length := by rw [leftS_eq, List.length_map]
    have hol : (openS ls E s.gone).length ≤ E.length := by
      unfold openS
      rw [List.length_map]
      exact Nat.le_trans (List.length_filter_le _ _) (by simp)
    have hle := nodup_lt hG.nodup hG.lt
    have hst4 := Strs.of_row (Own.Row.of h4)
    have hst5 := Prs.of_row h5
    have H4 := Lib.hid hst4
    have H5 := Lib.hid hst5
    obtain ⟨la, lc, rfl, ⟨hlc, hlm⟩, hlcell⟩ := hst4
    obtain ⟨pa, pc, rfl, -, -⟩ := hst5
    have hlm' : lc ≤ 9223372036854775807 := hlm
    obtain ⟨N, hN⟩ : ∃ N, (leftS ls s.done).length = N := ⟨_, rfl⟩
    rw [hN] at hlc h4 hlsn
    have HN := Lib.hid hN
    have hNn : N + s.order.length = ls.length := by omega
    rw [hN]
    clear hN hlsn hll
    by_cases hlt : 0 < N
    · have hltI : (0 : Int) < (N : Int) := by omega
      have hne : leftS ls s.done ≠ [] := by intro e; have := HN.out; rw [e] at this; simp at this; omega
      obtain ⟨lb, loff, rfl, hlc0⟩ := hlcell hne
      have hst4N := H4.out
      rw [HN.out] at hst4N
      have H4N := Lib.hid hst4N
      clear hst4N
      have hBef := Lib.hid (fun y => before_any _ (openS ls E s.gone) y wm H5.out)
      clear hlcell
      go_wp2_with fail
      go_loopw [8, 9] (fun nx i wr => ∃ (t : Nat) (z : Int), t ≤ N ∧ i = .int .i64 z ∧ z = (t : Int) - 1 ∧ wr = wm ∧ ((nx = .int .i64 (-1) ∧ ∀ (j : Nat) y, t ≤ j → (leftS ls s.done)[j]? = some y → ¬ bef (openS ls E s.gone) y < 0) ∨
        ∃ q : Nat, nx = .int .i64 (q : Nat) ∧ t ≤ q ∧ q < N ∧ (∃ y, (leftS ls s.done)[q]? = some y ∧ bef (openS ls E s.gone) y < 0) ∧ ∀ (j : Nat) y, t ≤ j → j < q → (leftS ls s.done)[j]? = some y → ¬ bef (openS ls E s.gone) y < 0)) (fun _ i _ => (intOf i + 1).toNat)
      case atStart =>
        refine ⟨N, _, Nat.le_refl _, rfl, rfl, rfl, .inl ⟨rfl, fun j y hj hy => ?_⟩⟩
        rw [List.getElem?_eq_none (by rw [HN.out]; exact hj)] at hy
        cases hy
      case round =>
        obtain ⟨t, z, ht, rfl, hz, rfl, hnx⟩ := hrel
        rename World => wm
        by_cases htp : 0 < t
        · obtain ⟨t', rfl⟩ : ∃ t', t = t' + 1 := ⟨t - 1, by omega⟩
          obtain rfl : z = (t' : Int) := by omega
          obtain ⟨y, hy⟩ : ∃ y, (leftS ls s.done)[t']? = some y := ⟨_, List.getElem?_eq_getElem (by rw [HN.out]; omega)⟩
          have k1 := hlc0 t' y hy
          have hge : (0 : Int) ≤ (t' : Int) := by omega
          have htI : (t' : Int) < (N : Int) := by omega
          have HY := Lib.hid hy
          have HNX := Lib.hid hnx
          have hB1 := Lib.hid (hBef.out y)
          have hjs : ∀ (j : Nat), t' ≤ j → t' + 1 ≤ j ∨ j = t' := fun j hj => by omega
          have HJS := Lib.hid hjs
          clear hy hnx hz hlc0 hjs
          by_cases hneg : bef (openS ls E s.gone) y < 0
          · have HNEG := Lib.hid hneg
            generalize bef (openS ls E s.gone) y = bb at hneg hB1
            go_wp2_with (go_at_call 27
                         (with_reducible refine hB1.out.mono ?_)
                         rintro e w3 ⟨rfl, rfl⟩)
            go_roundw
            case rel => exact ⟨t', (t' : Int) - 1, by omega, by go_num, rfl, trivial, .inr ⟨t', rfl, Nat.le_refl _, by omega, ⟨y, HY.out, HNEG.out⟩, fun j y' h1 h2 => by omega⟩⟩
            case measure => simp [intOf]
          · have HNEG := Lib.hid hneg
            generalize bef (openS ls E s.gone) y = bb at hneg hB1
            go_wp2_with (go_at_call 27
                         (with_reducible refine hB1.out.mono ?_)
                         rintro e w3 ⟨rfl, rfl⟩)
            go_roundw
            case rel =>
              refine ⟨t', (t' : Int) - 1, by omega, by go_num, rfl, trivial, ?_⟩
              have hfull : ∀ (j : Nat) y', t' ≤ j → (leftS ls s.done)[j]? = some y' → j = t' → ¬ bef (openS ls E s.gone) y' < 0 := fun j y' _ h2 h3 => by
                rw [h3, HY.out] at h2
                rw [← Option.some.inj h2]
                exact Int.not_lt.2 HNEG.out
              rcases HNX.out with ⟨h1, h2⟩ | ⟨q, h1, h2, h3, h4, h5⟩
              · refine .inl ⟨h1, fun j y' hj hy' => ?_⟩
                rcases HJS.out j hj with h | h
                · exact Int.not_lt.2 (h2 j y' h hy')
                · exact hfull j y' hj hy' h
              · refine .inr ⟨q, h1, by omega, h3, h4, fun j y' hj hjq hy' => ?_⟩
                rcases HJS.out j hj with h | h
                · exact Int.not_lt.2 (h5 j y' h hjq hy')
                · exact hfull j y' hj hy' h
            case measure => simp [intOf]
        · obtain rfl : t = 0 := by omega
          obtain rfl : z = -1 := by omega
          have hlo : s.order.length < ls.length := by omega
          have hl : (s.order.map (nm ls)).length = s.order.length := List.length_map ..
          have hl2 : (s.cycles.map (List.map (nm ls))).length = s.cycles.length := List.length_map ..
          have hoc3 : oc ≤ 9223372036854775807 := hoc2
          have hrc3 : rc ≤ 9223372036854775807 := hrc2
          have hcyE : s.cycles.length ≤ E.length := by have := hG.cnt; omega
          have hKn : ∀ j, j < K + 1 → (run E ls.length j).order.length < ls.length := fun j hj => by
            rcases Nat.lt_succ_iff_lt_or_eq.1 hj with h | h
            · exact hK j h
            · rw [h, HS0.out]; exact hlo
          have hsx : run E ls.length (K + 1) = Topo.next E ls.length s := by rw [← HS0.out]; rfl
          have hGn := hG.next HWF.out hlo
          have HKN := Lib.hid hKn
          have HSX := Lib.hid hsx
          have HGN := Lib.hid hGn
          clear hKn hsx hGn hz htp ht
          rcases hnx with ⟨rfl, hall⟩ | ⟨q, rfl, -, hqN, ⟨y, hy, hyb⟩, hbelow⟩
          · have hfree := free_no HND.out HWF.out (fun j y hj => hall j y (Nat.zero_le _) hj)
            obtain ⟨x, hx, hxn, hxd⟩ := first_some hG hlo
            obtain ⟨hc1, hc2⟩ := cycle_hyps HND.out HWF.out hG hfree
            obtain ⟨hring, hcl2, hcz⟩ := cyc_ring HWF.out hG hfree hxn hxd
            have hCy := TRefCycle.cycle_any _ _ (leftS ls s.done) (openS ls E s.gone) (nm ls x) (fun y => ∃ a, a < ls.length ∧ s.done a = false ∧ y = nm ls a) wm H4N.out H5.out (first_left hx) ⟨x, hxn, hxd, rfl⟩ hc1 hc2 (by rw [HN.out]; omega) (ls.length + 1) (by rw [HN.out]; omega)
            rw [cycle_is HND.out HWF.out hG hfree hxn hxd] at hCy
            have hlast := lastD_get _ hring.1
            have hhead := headD_get _ hring.1
            obtain ⟨m, hm⟩ : ∃ m, (cyc E ls.length s.gone x).length = m + 1 := ⟨(cyc E ls.length s.gone x).length - 1, by omega⟩
            rw [List.length_map, hm] at hCy
            rw [hm, Nat.add_sub_cancel] at hlast
            have hcyc0 : Topo.next E ls.length s = ⟨rems s.gone ((outof E ((cyc E ls.length s.gone x).getLastD 0)).filter fun i => (E.getD i (0, 0)).2 == (cyc E ls.length s.gone x).headD 0), s.done, s.order, s.cycles ++ [cyc E ls.length s.gone x]⟩ := by
              unfold Topo.next
              rw [hfree, hx]
              rfl
            generalize cyc E ls.length s.gone x = c at *
            have hla := hcz _ (List.mem_of_getElem? hlast)
            have hh0 := hcz _ (List.mem_of_getElem? hhead)
            generalize c.getLastD 0 = la at *
            generalize c.headD 0 = h0 at *
            have hmn : m + 1 ≤ ls.length := by rw [← hm]; exact nodup_lt hring.2.1 hcz
            have HCY := Lib.hid hCy
            have HC0 := Lib.hid hcyc0
            have HM := Lib.hid hm
            have HLAST := Lib.hid hlast
            have HHEAD := Lib.hid hhead
            have hcyL : Hid (s.cycles.length < E.length) := by
              have := HGN.out.2
              rw [HC0.out] at this
              simp at this
              exact this
            have HW := Lib.hid (wout_one (E := E) HND.out HWF.out s.gone hla hh0)
            have hbsz := hb.size
            have hrw : wm.ownsRow w.heap.size 30 1 (.slice ra s.cycles.length rc) s.cycles.length cvs := by
              have := hO.rows
              rw [hl2] at this
              exact this
            have H4row := Lib.hid h4
            have hWo := fun v W hv => without_any v (openS ls E s.gone) (nm ls la) (nm ls h0) false W hv (by omega)
            rw [HW.out] at hWo
            have HWO := Lib.hid hWo
            clear hWo hCy hcyc0 hm hlast hhead hring hcz hall hfree hlc0 hBef hc1 hc2 hx
            go_wp2_with (first
              | (go_at_call 30
                 go_loud (
                 (with_reducible refine HCY.out.mono ?_)
                 rintro e8 w3 ⟨v10, rfl, hr10, hb3⟩
                 have hs3 := hb3.size
                 have hst10 := Strs.of_row (Own.Row.of hr10)
                 obtain ⟨ca, cc10, rfl, ⟨hcc, hcm⟩, hccell⟩ := hst10
                 rw [List.length_map, HM.out] at hr10 hcc
                 rw [List.length_map, HM.out]
                 obtain ⟨cb, coff, rfl, hccel⟩ := hccell (by intro e; have := congrArg List.length e; rw [List.length_map, HM.out] at this; simp at this)
                 have hcm' : cc10 ≤ 9223372036854775807 := hcm
                 have kl : w3.cell? ⟨cb, coff + m, none⟩ = some (.string ⟨(nm ls la).toArray⟩) := hccel m _ (by rw [List.getElem?_map, HLAST.out]; rfl)
                 have kh : w3.cell? ⟨cb, coff, none⟩ = some (.string ⟨(nm ls h0).toArray⟩) := hccel 0 _ (by rw [List.getElem?_map, HHEAD.out]; rfl)
                 clear hccel hccell
                 have hcb := (ownsRow_block hr10 cb rfl)
                 have hO3 := hO.keep (w' := w3) (fun z _ hz => hb3.block z hz)
                 have hrw3 := ownsRow_keep hrw (w' := w3) (fun z hz => hb3.block z (ownsRow_block hrw z hz).2)))
              | (at_builtin
                 refine wpList_append_lies _ rfl _ _ _ rfl w.heap.size 30 i2 _ 1 24 Try.underlying31 hi2 hx0 hx1 hx2 rfl (by omega) _ s.cycles.length cvs rfl (hrw3.alloc _) ⟨w3.heap.size, 0, none⟩ 1 1 [.slice (some ⟨cb, coff, none⟩) (m + 1) cc10] rfl rfl (World.news_of_block (cs := #[.slice (some ⟨cb, coff, none⟩) (m + 1) cc10]) (t := 30) (fr := (0, 0)) (heap_alloc_new w3 _)) (by simp [Value.oneCell']) (by omega) (by unfold maxLen; omega) (by omega) (by simp; omega) (w3.heap.size + 1) (by simp) ?_
                 intro g7 cap7 w7 hown7 hgrow7 hat7 hlt7
                 have hk7 : ∀ z, z < w3.heap.size → (Value.slice ra s.cycles.length rc).ownBlock ≠ some z → w7.heap[z]? = w3.heap[z]? := fun z hz hne => (hgrow7.block z (by simp; omega) (Ne.symm hne)).trans (Below.heap_alloc w3 _ z hz)
                 have hl3 : (c.map (nm ls)).length = m + 1 := by rw [List.length_map, HM.out]
                 have hr10' : w3.ownsRow w.heap.size 9 1 (.slice (some ⟨cb, coff, none⟩) (m + 1) cc10) (c.map (nm ls)).length (cellsOf (c.map (nm ls))) := by
                   rw [hl3]
                   exact ownsRow_mono hr10 hb.size
                 have hvb : ∀ z, (Value.slice ra s.cycles.length rc).ownBlock = some z → w.heap.size ≤ z ∧ z < wm.heap.size := hO.blocks.2.1
                 have hO7 := hO3.addCycle (g := g7) (cap := cap7) hr10' (fun z hz => by
                   have h1 := (ownsRow_block hr10 z hz).1
                   exact ⟨fun e => by have := (hO.blocks.1 z e).2; omega, fun e => by have := (hvb z e).2; omega⟩) (by rw [hl2]; exact hown7) hk7 hat7 (Nat.le_succ _)
                 rw [hl2] at hO7
                 have hk7c : w7.heap[cb]? = w3.heap[cb]? := hk7 cb hcb.2 (fun e => by have := (hvb cb e).2; omega)
                 have kl7 : w7.cell? ⟨cb, coff + m, none⟩ = some (.string ⟨(nm ls la).toArray⟩) := (World.cell?_of_block hk7c).trans kl
                 have kh7 : w7.cell? ⟨cb, coff, none⟩ = some (.string ⟨(nm ls h0).toArray⟩) := (World.cell?_of_block hk7c).trans kh
                 have h47 := ownsRow_keep h4 (w' := w7) (fun z hz => (hk7 z (by have := (ownsRow_block h4 z hz).2; omega) (ha4 z hz).2).trans (hb3.block z (ownsRow_block h4 z hz).2))
                 have h57 := ownsRow_keep h5 (w' := w7) (fun z hz => (hk7 z (by have := (ownsRow_block h5 z hz).2; omega) (ha5 z hz).2).trans (hb3.block z (ownsRow_block h5 z hz).2))
                 have hsz7 : w3.heap.size ≤ w7.heap.size := Nat.le_trans (by simp) hgrow7.size
                 have hb7 : Below w.heap.size w w7 := ((hb.trans (hb3.mono hbsz)).alloc (by omega) _).grown hgrow7 (by simp; omega) (fun z hz => (hvb z hz).1)
                 clear hO hO3 h4 h5 hr10 hr10' hrw hrw3 kl kh hk7 hgrow7 hown7))
            have hm1 : (m : Int) < (m : Int) + 1 := by omega
            have hm0 : (0 : Int) ≤ (m : Int) := by omega
            have hm2 : (m : Int) + 1 - 1 = (m : Int) := by omega
            have hm3 : IntKind.i64.wrap ((m : Int) + 1 - 1) = (m : Int) := by rw [hm2]; exact Base.wrap_small m (by omega)
            have hm5 : IntKind.i64.wrap (m : Int) = (m : Int) := Base.wrap_small m (by omega)
            have kl8 : ({ heap := w7.heap, tape := w7.tape, drawn := w7.drawn + 1, os := w7.os, output := w7.output } : World).cell? ⟨cb, coff + m, none⟩ = some (.string ⟨(nm ls la).toArray⟩) := kl7
            have kh8 : ({ heap := w7.heap, tape := w7.tape, drawn := w7.drawn + 1, os := w7.os, output := w7.output } : World).cell? ⟨cb, coff, none⟩ = some (.string ⟨(nm ls h0).toArray⟩) := kh7
            go_still_tail 10, (by kernel_rfl)
            change wpList _ _ _ _ _ w7.drew
            have h57' : Prs w7.drew (.slice pa (openS ls E s.gone).length pc) (openS ls E s.gone) := Prs.of_row h57.drew
            go_wp2_with (go_at_call 28
                         (with_reducible refine (HWO.out _ w7.drew h57').mono ?_)
                         rintro e9 w8 ⟨v5n, rfl, hr5n, hb8⟩)
            go_roundw
            case rel =>
              have hnx : run E ls.length (K + 1) = ⟨rems s.gone ((outof E la).filter fun i => (E.getD i (0, 0)).2 == h0), s.done, s.order, s.cycles ++ [c]⟩ := by
                rw [HSX.out, HC0.out]
              have hO8 := hO7.keep (w' := w8) (fun z _ hz => hb8.block z hz)
              have hblk := hO7.blocks
              refine ⟨K + 1, cvs ++ [.slice (some ⟨cb, coff, none⟩) (m + 1) cc10], by rw [HSX.out]; exact HGN.out.1, HKN.out, ?_, ?_, ?_, ?_, ?_, hb7.drew.trans (hb8.mono hb7.size)⟩
              · rw [hnx]
                show w8.ownsRow w.heap.size 9 1 _ (leftS ls s.done).length (cellsOf (leftS ls s.done))
                rw [HN.out]
                exact ownsRow_keep h47 (fun z hz => hb8.block z (ownsRow_block h47 z hz).2)
              · rw [hnx]
                exact ownsRow_mono hr5n hb7.size
              · rw [hnx]
                simp only [List.map_append, List.map_cons, List.map_nil]
                exact hO8
              · intro z hz
                have h1 := ownsRow_block h47 z hz
                refine ⟨(ha4 z hz).1, fun e => ?_⟩
                have e1 : g7 = z := by simpa [Value.ownBlock] using e
                rcases hat7 with h2 | h2
                · exact (ha4 z hz).2 (by rw [← e1]; exact h2)
                · have := (ownsRow_block H4row.out z hz).2; omega
              · intro z hz
                have h1 := (ownsRow_block hr5n z hz).1
                have h1' : w7.heap.size ≤ z := h1
                exact ⟨fun e => by have := (hblk.1 z e).2; omega, fun e => by have := (hblk.2.1 z e).2; omega⟩
            case measure =>
              have := hcyL.out
              simp only [sliceLen]
              omega
          · obtain ⟨f, hf, hyf⟩ : ∃ f, (TRefStep.leftN ls.length s.done)[q]? = some f ∧ y = nm ls f := by
              rw [leftS_eq, List.getElem?_map] at hy
              cases h : (TRefStep.leftN ls.length s.done)[q]? with
              | none => rw [h] at hy; cases hy
              | some f => rw [h] at hy; exact ⟨f, rfl, (Option.some.inj hy).symm⟩
            subst hyf
            have hfree := free_at HND.out HWF.out hf hyb (fun j y' h1 h2 => hbelow j y' (Nat.zero_le _) h1 h2)
            have hfn := (mem_leftN.1 (List.mem_of_getElem? hf)).1
            have k1 := hlc0 q _ hy
            have hqI : (q : Int) < (N : Int) := by omega
            have hq0 : (0 : Int) ≤ (q : Int) := by omega
            have hor : wm.ownsRow w.heap.size 9 1 (.slice oa s.order.length oc) s.order.length (cellsOf (s.order.map (nm ls))) := by
              have := hO.order
              rw [hl] at this
              exact this
            have hlb : lb < wm.heap.size := World.block_lt_of_cell? wm _ k1
            have ha4v := ha4 lb rfl
            have hbsz := hb.size
            have HER := Lib.hid (left_erase hf)
            have HW := Lib.hid (wout_all (E := E) HND.out HWF.out s.gone hfn)
            have HFR := Lib.hid hfree
            clear hbelow hf hfree hyb hlc0 hy hBef
            have hWo := fun v W hv => without_any v (openS ls E s.gone) (nm ls f) [] true W hv (by omega)
            have hnil : (⟨([] : List UInt8).toArray⟩ : ByteArray) = ⟨#[]⟩ := rfl
            rw [HW.out, hnil] at hWo
            have HWO := Lib.hid hWo
            clear hWo hnil
            go_wp2_with (first
              | (at_builtin
                 refine wpList_append_lies _ rfl _ _ _ rfl w.heap.size 9 i1 _ 1 16 Try.underlying30 hi1 hy0 hy1 hy2 rfl (by omega) _ s.order.length (cellsOf (s.order.map (nm ls))) rfl (hor.alloc _) ⟨wm.heap.size, 0, none⟩ 1 1 [.string ⟨(nm ls f).toArray⟩] rfl rfl (World.news_of_block (cs := #[.string ⟨(nm ls f).toArray⟩]) (t := 9) (fr := (0, 0)) (heap_alloc_new wm _)) (by simp [Value.oneCell']) (by omega) (by unfold maxLen; omega) (by omega) (by simp; omega) (wm.heap.size + 1) (by simp) ?_
                 intro gg cap w3 hown3 hgrow3 hat3 hlt3
                 have hk3 : ∀ z, z < wm.heap.size → (Value.slice oa s.order.length oc).ownBlock ≠ some z → w3.heap[z]? = wm.heap[z]? := fun z hz hne => (hgrow3.block z (by simp; omega) (Ne.symm hne)).trans (Below.heap_alloc wm _ z hz)
                 have hsz3 : wm.heap.size ≤ w3.heap.size := Nat.le_trans (by simp) hgrow3.size
                 have hO3 := hO.addOrder (x := nm ls f) (g := gg) (cap := cap) (by rw [hl]; exact hown3) hk3 hat3 (Nat.le_succ _)
                 rw [hl] at hO3
                 have h43 := ownsRow_keep h4 (w' := w3) (fun z hz => hk3 z (ownsRow_block h4 z hz).2 (ha4 z hz).1)
                 have h53 := ownsRow_keep h5 (w' := w3) (fun z hz => hk3 z (ownsRow_block h5 z hz).2 (ha5 z hz).1)
                 have hb3 : Below w.heap.size w w3 := (hb.alloc hbsz _).grown hgrow3 (by simp; omega) (fun z hz => (hO.blocks.1 z hz).1)
                 have k13 : w3.cell? ⟨lb, loff + q, none⟩ = some (.string ⟨(nm ls f).toArray⟩) := (World.cell?_of_block (hk3 lb hlb ha4v.1)).trans k1)
              | (go_at_call 28
                 (with_reducible refine (HWO.out _ w3 (Prs.of_row h53)).mono ?_)
                 rintro e8 w4 ⟨v5n, rfl, hr5n, hb4⟩
                 have h44 := ownsRow_keep h43 (w' := w4) (fun z hz => hb4.block z (ownsRow_block h43 z hz).2)
                 have HST4 := Lib.hid (Strs.of_row (ls := leftS ls s.done) (Own.Row.of h44)))
              | (go_at_call 29
                 (with_reducible refine (TRefRemove.remove_any _ (leftS ls s.done) q w4 HST4.out (by rw [HN.out]; omega)).mono ?_)
                 rintro e9 w5 ⟨v4n, rfl, hr4n, hb5⟩))
            go_roundw
            case rel =>
              have hnx : run E ls.length (K + 1) = ⟨rems s.gone (outof E f), fun j => s.done j || j == f, s.order ++ [f], s.cycles⟩ := by
                rw [HSX.out]
                unfold Topo.next
                rw [HFR.out]
              have hO5 := (hO3.keep (w' := w4) (fun z _ hz => hb4.block z hz)).keep (w' := w5) (fun z _ hz => hb5.block z hz)
              have hs4 := hb4.size
              have hblk := hO3.blocks
              refine ⟨K + 1, cvs, by rw [HSX.out]; exact HGN.out.1, HKN.out, ?_, ?_, ?_, ?_, ?_, (hb3.trans (hb4.mono hb3.size)).trans (hb5.mono (Nat.le_trans hb3.size hs4))⟩
              · rw [hnx]
                show w5.ownsRow w.heap.size 9 1 _ (leftS ls (fun j => s.done j || j == f)).length (cellsOf (leftS ls (fun j => s.done j || j == f)))
                rw [← HER.out]
                exact ownsRow_mono hr4n (Nat.le_trans hb3.size hs4)
              · rw [hnx]
                exact ownsRow_keep (ownsRow_mono hr5n hb3.size) (fun z hz => hb5.block z (ownsRow_block hr5n z hz).2)
              · rw [hnx]
                simp only [List.map_append, List.map_cons, List.map_nil]
                exact hO5
              · intro z hz
                have h1 := (ownsRow_block hr4n z hz).1
                exact ⟨fun e => by have := (hblk.1 z e).2; omega, fun e => by have := (hblk.2.1 z e).2; omega⟩
              · intro z hz
                have h1 := (ownsRow_block hr5n z hz).1
                exact ⟨fun e => by have := (hblk.1 z e).2; omega, fun e => by have := (hblk.2.1 z e).2; omega⟩
            case measure => simp only [sliceLen]; omega
    · have hN0 : N = 0 := by omega
      subst hN0
      go_wp2
      go_ret2
      unfold SPost
      rw [hst]
      exact ⟨_, _, K, rfl, by rw [HS0.out]; exact hG, by rw [HS0.out]; show s.order.length = ls.length; omega, hK, by rw [HS0.out]; exact hO.strs, by rw [HS0.out]; exact hO.lists3, hb⟩
end Go.Proofs.Ytlnbkljajocfoaa.TRefSort
