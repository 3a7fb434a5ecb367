/- tsort.Valid. -/
import Derived.Test.YtlnbkljajocfoaaTSort
import Derived.Test.YtlnbkljajocfoaaTRefMath
namespace Go.Proofs.Ytlnbkljajocfoaa.TValid
open Go Go.RowKit Go.Maps Go.WideMaps Topo Strs TWords TPairs TGraph TRead TSorter TSlices TReverse TClone TClear TCycle TMake TFam TBuild TStart TOut

/-- the numbers of an order's elements -/
def pos (ls order : List Str) : List Nat := order.map fun s => ls.idxOf s
/-- has an order exactly the elements, and respects it the constraints? -/
def Valid (ps : List (Str × Str)) (order : List Str) : Prop :=
  order.length = (rd ps).1.length ∧ (∀ s ∈ order, s ∈ (rd ps).1) ∧ order.Nodup ∧ ∀ e ∈ (rd ps).2, (pos (rd ps).1 order).idxOf e.1 ≤ (pos (rd ps).1 order).idxOf e.2
instance (ps : List (Str × Str)) (order : List Str) : Decidable (Valid ps order) := by unfold Valid; infer_instance
theorem pos_take (ls order : List Str) (k : Nat) (s : Str) (h : order[k]? = some s) : pos ls (order.take (k + 1)) = pos ls (order.take k) ++ [ls.idxOf s] := by
  unfold pos
  rw [List.take_add_one, h, List.map_append]
  rfl
theorem idx_inj {ls : List Str} {a b : Str} (ha : a ∈ ls) (hb : b ∈ ls) (h : ls.idxOf a = ls.idxOf b) : a = b := by
  have h1 := List.idxOf_lt_length_of_mem ha
  have e1 : ls[ls.idxOf a]? = some a := by rw [List.getElem?_eq_getElem h1, List.getElem_idxOf]
  have h2 := List.idxOf_lt_length_of_mem hb
  have e2 : ls[ls.idxOf b]? = some b := by rw [List.getElem?_eq_getElem h2, List.getElem_idxOf]
  rw [h, e2] at e1
  exact (Option.some.inj e1).symm
theorem pos_lt {ls order : List Str} (h : ∀ s ∈ order, s ∈ ls) : ∀ z ∈ pos ls order, z < ls.length := by
  intro z hz
  obtain ⟨s, h1, rfl⟩ := List.mem_map.1 hz
  exact List.idxOf_lt_length_of_mem (h s h1)
theorem pos_all {ls order : List Str} (h : ∀ s ∈ order, s ∈ ls) (hnd : (pos ls order).Nodup) (hl : order.length = ls.length) (x : Nat) (hx : x < ls.length) : x ∈ pos ls order := by
  refine Decidable.byContradiction fun hn => ?_
  have h1 : (pos ls order ++ [x]).Nodup := by
    rw [List.nodup_append]
    exact ⟨hnd, by simp, fun a ha b hb => by rw [List.mem_singleton] at hb; subst hb; exact fun e => hn (e ▸ ha)⟩
  have h2 := nodup_le h1 (n := ls.length) (fun z hz => by
    rcases List.mem_append.1 hz with h3 | h3
    · exact pos_lt h z h3
    · rw [List.mem_singleton] at h3; rw [h3]; exact hx)
  rw [List.length_append] at h2
  unfold pos at h2
  rw [List.length_map] at h2
  simp at h2
  omega
theorem nodup_of_map {α β : Type} (g : α → β) : ∀ {l : List α}, (l.map g).Nodup → l.Nodup
  | [], _ => List.nodup_nil
  | a :: l, h => by
    rw [List.map_cons, List.nodup_cons] at h
    exact List.nodup_cons.2 ⟨fun hm => h.1 (List.mem_map.2 ⟨a, hm, rfl⟩), nodup_of_map g h.2⟩
theorem grown_of {B : Nat} {w w' : World} (h : Below B w w') (hB : w.heap.size ≤ B) : w.grownBy w' none := ⟨h.os, h.tape, h.output, h.size, fun k hk _ => h.block k (by omega)⟩
set_option maxHeartbeats 4000000 in
set_option maxRecDepth 100000 in
theorem valid_any (v0 vo : Value) (ps : List (Str × Str)) (order : List Str) (w : World) (hv : Prs w v0 ps) (ho : Strs w vo order) (hn : ps.length ≤ 16777216) (hs : ∀ p ∈ ps, p.1.length ≤ 1099511627776 ∧ p.2.length ≤ 1099511627776) (hos : ∀ s ∈ order, s.length ≤ 1099511627776) :
    Calls Try.prog 16 #[v0, vo] w fun e w' => e = .returned (.bool (decide (Valid ps order))) ∧ Below w.heap.size w w' := by
  have hlen := rd_len ps
  have hmm := @run_makeMap Try.prog
  obtain ⟨oa, oc, rfl, ⟨hoc, hom⟩, hocell⟩ := ho
  have hom' : oc ≤ 9223372036854775807 := hom
  have HR := Lib.hid (read_any v0 ps w hv hn hs)
  have hends := rd_ends ps
  have HOC := Lib.hid hocell
  clear hocell
  by_cases hl : order.length = (rd ps).1.length
  · go_enter Try.func16, Try.ntmps16
    have hlB : ((order.length : Int) != (rd ps).1.length) = false := by simp [hl]
    have HLEN := Lib.hid hl
    clear hl
    go_wp2_with (go_at_call 23
                 with_reducible refine HR.out.mono ?_
                 rintro e w1 ⟨vn, ed, rfl, hgr, hed, hap, hb1⟩
                 obtain ⟨na, nc, rfl, hnc1, hnc2⟩ := TSort.shape hgr.names
                 obtain ⟨ea, ec, rfl, hec1, hec2⟩ := TSort.shape hed
                 have hnc3 : nc ≤ 9223372036854775807 := hnc2
                 have c0 : w1.cell? ⟨w.heap.size + 1, 0, none⟩ = some (.slice na (rd ps).1.length nc) := row_cell hgr.cells 0)
    obtain ⟨hgc, -, ⟨D0, hmap0, hnum0⟩, hgnd, ⟨hmg, -⟩, hgroom⟩ := hgr
    have c1 : w1.cell? ⟨w.heap.size + 1, 1, none⟩ = some (.map (some w.heap.size)) := row_cell hgc 1
    have lg := lt_of_block hgc
    have lm := hmap0.lt
    obtain ⟨eb, heb1, -, hE⟩ := edges_at w.heap.size hed
    have HE1 := Lib.hid heb1
    have HE := Lib.hid hE
    have hMade := World.ownsMap_made w1 Try.prog 3 (plainElem Try.prog 3 (H := Unit))
    have hbM : Below w1.heap.size w1 (w1.alloc (.map #[] 0)) := (Below.refl _ _).alloc (Nat.le_refl _) _
    have HENDS := Lib.hid hends
    have HVal : Hid (decide (Valid ps order) = decide (order.length = (rd ps).1.length ∧ (∀ s ∈ order, s ∈ (rd ps).1) ∧ order.Nodup ∧ ∀ e ∈ (rd ps).2, (pos (rd ps).1 order).idxOf e.1 ≤ (pos (rd ps).1 order).idxOf e.2)) := rfl
    clear heb1 hE hed hap hends HR
    generalize rd ps = st at *
    obtain ⟨ls, E⟩ := st
    simp only at hlen hnc1 hec1 hmap0 hnum0 hgnd c0
    go_loopw [32] (fun i wr => ∃ (k : Nat) (D : DataW Unit), i = .int .i64 (k : Nat) ∧ k ≤ order.length ∧ (∀ s ∈ order.take k, s ∈ ls) ∧ (pos ls (order.take k)).Nodup ∧ wr.ownsMap Try.prog 3 (plainElem Try.prog 3) w1.heap.size k D ∧ NumbI D (pos ls (order.take k)) ∧ Below w1.heap.size w1 wr) (fun i _ => order.length - (intOf i).toNat)
    case atStart => exact ⟨0, .map [], rfl, Nat.zero_le _, (fun s hs => by simp at hs), by simp [pos], hMade, by exact NumbI.nil, hbM⟩
    case round =>
      obtain ⟨k, D, rfl, hk, hall, hnd, hmap, hnum, hb⟩ := hrel
      have hmapG := hmap0.kept (grown_of hb (Nat.le_refl _)) (by simp)
      by_cases hlt : k < order.length
      · obtain ⟨s, hsk⟩ : ∃ s, order[k]? = some s := ⟨_, List.getElem?_eq_getElem hlt⟩
        obtain ⟨ob, ooff, rfl, hoc0⟩ := HOC.out (by intro e; rw [e] at hlt; simp at hlt)
        have q0 := hoc0 k s hsk
        have k0 := ((hb1.trans (hb.mono hb1.size)).cell (World.block_lt_of_cell? w _ q0)).trans q0
        have g1 := (hb.cell (p := ⟨w.heap.size + 1, 1, none⟩) lg).trans c1
        have hki : (k : Int) < (order.length : Int) := by omega
        have hsl := hos s (List.mem_of_getElem? hsk)
        have hkey : keyOf Try.prog 9 (.string ⟨s.toArray⟩) = some (.string s) := by
          simpa using keyOf_string_mk (P := Try.prog) Try.underlying9 (s := ⟨s.toArray⟩) (by simp [ByteArray.size]; unfold maxLen; omega)
        have hhas := (hnum0.2 s).1
        have hat0 := (hnum0.2 s).2
        have HSK := Lib.hid hsk
        have HALL := Lib.hid hall
        have HND := Lib.hid hnd
        clear hoc0 hsk q0 hall hnd
        by_cases hin : s ∈ ls
        · have hh : Maps.has D0 (.string s) = true := by rw [hhas]; simp [hin]
          have hat := hat0 hin
          have hidx := List.idxOf_lt_length_of_mem hin
          have hlsl : ls.length ≤ 33554432 := by omega
          have hkey2 : keyOf Try.prog 3 (.int .i64 (ls.idxOf s : Nat)) = some (.int .i64 (ls.idxOf s : Nat)) := keyOf_int_mk Try.underlying3 (WalkArith.wf_i64 (by omega))
          have hhas2 := (hnum.2 (ls.idxOf s)).1
          have hstep := pos_take ls order k s HSK.out
          have hplen : (pos ls (order.take k)).length = k := by unfold pos; rw [List.length_map, List.length_take]; omega
          have HIN := Lib.hid hin
          clear hhas hat0 hin
          by_cases hp : ls.idxOf s ∈ pos ls (order.take k)
          · have hh2 : Maps.has D (.int .i64 (ls.idxOf s : Nat)) = true := by rw [hhas2]; simp [hp]
            have hV : Hid (decide (Valid ps order) = false) := by
              rw [Hid, decide_eq_false_iff_not]
              intro h
              have h3 := h.2.2.1
              obtain ⟨s', h4, h5⟩ := List.mem_map.1 hp
              have h6 := idx_inj (HALL.out s' h4) HIN.out h5
              subst h6
              obtain ⟨j, hj⟩ := List.getElem?_of_mem h4
              rw [List.getElem?_take] at hj
              split at hj
              · rename_i hjk
                have := TRefMath.nodup_get h3 hj HSK.out
                omega
              · cases hj
            generalize ls.idxOf s = n at *
            clear hp hstep hhas2
            go_wp2_with (first
              | (at_lookup
                 refine wpList_lookup_own_ok_int _ rfl _ _ 46 rfl 9 3 .i64 law Try.underlying46 Try.underlying3 (zeroE _) w.heap.size ls.length D0 rfl hmapG _ _ rfl hkey ?_
                 intro c hatc hwc
                 rw [hat] at hatc
                 have hce : (n : Int) = c := by injection hatc with hatc; injection hatc
                 subst hce
                 rw [hh])
              | (at_lookup
                 refine wpList_lookup_own_ok_int _ rfl _ _ 53 rfl 3 3 .i64 lawI Try.underlying53 Try.underlying3 (zeroI _) w1.heap.size k D rfl hmap _ _ rfl hkey2 ?_
                 intro c2 hatc2 hwc2
                 rw [hh2]))
            go_ret
            rw [hV.out]
            exact ⟨rfl, hb1.trans (hb.mono hb1.size)⟩
          · have hh2 : Maps.has D (.int .i64 (ls.idxOf s : Nat)) = false := by rw [hhas2]; simp [hp]
            have hnum2 := hnum.add (ls.idxOf s) hp (by trivial)
            rw [← hstep, hplen] at hnum2
            have HNUM := Lib.hid hnum2
            have hnd2 : (pos ls (order.take (k + 1))).Nodup := by
              rw [hstep, List.nodup_append]
              exact ⟨HND.out, by simp, fun a ha b hb => by rw [List.mem_singleton] at hb; subst hb; exact fun e => hp (e ▸ ha)⟩
            have HND2 := Lib.hid hnd2
            have hall2 : ∀ s' ∈ order.take (k + 1), s' ∈ ls := by
              intro s' hs'
              rw [List.take_add_one, HSK.out] at hs'
              rcases List.mem_append.1 hs' with h | h
              · exact HALL.out s' h
              · simp at h
                rw [h]; exact HIN.out
            have HALL2 := Lib.hid hall2
            generalize ls.idxOf s = n at *
            clear hp hstep hhas2 hnum2 hnd2 hall2 hnum
            go_wp2_with (first
              | (at_lookup
                 refine wpList_lookup_own_ok_int _ rfl _ _ 46 rfl 9 3 .i64 law Try.underlying46 Try.underlying3 (zeroE _) w.heap.size ls.length D0 rfl hmapG _ _ rfl hkey ?_
                 intro c hatc hwc
                 rw [hat] at hatc
                 have hce : (n : Int) = c := by injection hatc with hatc; injection hatc
                 subst hce
                 rw [hh])
              | (at_lookup
                 refine wpList_lookup_own_ok_int _ rfl _ _ 53 rfl 3 3 .i64 lawI Try.underlying53 Try.underlying3 (zeroI _) w1.heap.size k D rfl hmap _ _ rfl hkey2 ?_
                 intro c2 hatc2 hwc2
                 rw [hh2])
              | (at_mapUpdate
                 refine wpList_mapUpdate_own _ rfl _ _ _ 53 rfl 3 3 lawI Try.underlying53 _ w1.heap.size k _ rfl hmap (by unfold maxLen; omega) _ _ _ rfl rfl hkey2 _ [] (plainElem_int Try.underlying3 (WalkArith.wf_i64 (by omega))) ?_
                 intro w3 hmap3 hg3))
            go_roundw
            case rel =>
              exact ⟨k + 1, _, by go_num, by omega, HALL2.out, HND2.out, hmap3, HNUM.out, hb.grown hg3 hb.size (fun q hq => by injection hq with hq; omega)⟩
            case measure => simp [intOf]; omega
        · have hh : Maps.has D0 (.string s) = false := by rw [hhas]; simp [hin]
          have hV : Hid (decide (Valid ps order) = false) := by
            rw [Hid, HVal.out, decide_eq_false_iff_not]
            intro h
            exact hin (h.2.1 s (List.mem_of_getElem? HSK.out))
          clear hhas hat0 hin hnum
          go_wp2_with (first
            | (at_lookup
               refine wpList_lookup_own_ok_int _ rfl _ _ 46 rfl 9 3 .i64 law Try.underlying46 Try.underlying3 (zeroE _) w.heap.size ls.length D0 rfl hmapG _ _ rfl hkey ?_
               intro c hatc hwc
               rw [hh])
            | (at_lookup
               refine wpList_lookup_own_ok_int _ rfl _ _ 53 rfl 3 3 .i64 lawI Try.underlying53 Try.underlying3 (zeroI _) w1.heap.size k D rfl hmap _ _ rfl (keyOf_int_mk Try.underlying3 hwc) ?_
               intro c2 hatc2 hwc2))
          go_ret
          rw [hV.out]
          exact ⟨rfl, hb1.trans (hb.mono hb1.size)⟩
      · obtain rfl : k = order.length := by omega
        rw [List.take_length] at hall hnd hnum
        have hpa := fun x hx => pos_all hall hnd HLEN.out x hx
        rename World => ws
        have HALL := Lib.hid hall
        have HND := Lib.hid hnd
        obtain ⟨p, hpe⟩ : ∃ p, pos ls order = p := ⟨_, rfl⟩
        have hplen : p.length = order.length := by rw [← hpe]; unfold pos; rw [List.length_map]
        rw [hpe] at hnum hpa hnd
        have HPE := Lib.hid hpe
        have HB := Lib.hid hb
        have hbsz := hb.size
        have hol : order.length ≤ 33554432 := by have h : order.length = ls.length := HLEN.out; omega
        have HPA := Lib.hid hpa
        have HNUM := Lib.hid hnum
        clear hall hnd hmapG hpe hb hlt hpa hnum
        go_wp2_with fail
        go_loopw [63] (fun i wq => ∃ q, i = .int .i64 (q : Nat) ∧ q ≤ E.length ∧ (∀ e ∈ E.take q, p.idxOf e.1 ≤ p.idxOf e.2) ∧ Below ws.heap.size ws wq) (fun i _ => E.length - (intOf i).toNat)
        case atStart => exact ⟨0, rfl, Nat.zero_le _, (fun e he => by simp at he), Below.refl _ _⟩
        case round =>
          rename World => wq
          obtain ⟨q, rfl, hq, hle, hbq⟩ := hrel
          by_cases hqn : q < E.length
          · obtain ⟨e, he⟩ : ∃ e, E[q]? = some e := ⟨_, List.getElem?_eq_getElem hqn⟩
            obtain ⟨hea, -, heb⟩ := HE1.out (by intro h; rw [h] at hqn; simp at hqn)
            obtain ⟨r0, r1, r2, -⟩ := HE.out q e he
            have hcw : ∀ j, wq.cell? ⟨eb, j, none⟩ = w1.cell? ⟨eb, j, none⟩ := fun j => (hbq.cell (p := ⟨eb, j, none⟩) (by show eb < ws.heap.size; omega)).trans (HB.out.cell (p := ⟨eb, j, none⟩) heb)
            have k0 := (hcw _).trans r0
            have k1 := (hcw _).trans r1
            have k2 := (hcw _).trans r2
            have hee := HENDS.out e (List.mem_of_getElem? he)
            have hm1 := HPA.out e.1 hee.1
            have hm2 := HPA.out e.2 hee.2
            have hat1 := (HNUM.out.2 e.1).2 hm1
            have hat2 := (HNUM.out.2 e.2).2 hm2
            have hkey1 : keyOf Try.prog 3 (.int .i64 (e.1 : Nat)) = some (.int .i64 (e.1 : Nat)) := keyOf_int_mk Try.underlying3 (WalkArith.wf_i64 (by omega))
            have hkey2 : keyOf Try.prog 3 (.int .i64 (e.2 : Nat)) = some (.int .i64 (e.2 : Nat)) := keyOf_int_mk Try.underlying3 (WalkArith.wf_i64 (by omega))
            have hx1 := List.idxOf_lt_length_of_mem hm1
            have hx2 := List.idxOf_lt_length_of_mem hm2
            have hmapA := (hmap.kept (grown_of hbq (Nat.le_refl _)) (by simp)).alloc (.cells #[.int .i64 (e.1 : Nat), .int .i64 (e.2 : Nat), .bool false] 57)
            have hP := heap_alloc_new wq (.cells #[.int .i64 (e.1 : Nat), .int .i64 (e.2 : Nat), .bool false] 57)
            have p0 := row_cell hP 0
            have p1 := row_cell hP 1
            have hki : (q : Int) < (E.length : Int) := by omega
            have hbA := hbq.alloc hbq.size (.cells #[.int .i64 (e.1 : Nat), .int .i64 (e.2 : Nat), .bool false] 57)
            have HE0 := Lib.hid he
            subst hea
            have HHLE := Lib.hid hle
            clear hcw r0 r1 r2 hm1 hm2 he hle hP
            obtain ⟨i1, hi1⟩ : ∃ i1, p.idxOf e.1 = i1 := ⟨_, rfl⟩
            obtain ⟨i2, hi2⟩ : ∃ i2, p.idxOf e.2 = i2 := ⟨_, rfl⟩
            rw [hi1] at hat1 hx1
            rw [hi2] at hat2 hx2
            have HI1 := Lib.hid hi1
            have HI2 := Lib.hid hi2
            clear hi1 hi2
            by_cases hgt : i2 < i1
            · have hgtI : (i2 : Int) < (i1 : Int) := by omega
              have hV : Hid (decide (Valid ps order) = false) := by
                rw [Hid, HVal.out, decide_eq_false_iff_not]
                intro h
                have := h.2.2.2 e (List.mem_of_getElem? HE0.out)
                rw [HPE.out, HI1.out, HI2.out] at this
                omega
              go_wp2_with (first
                | (at_lookup
                   refine wpList_lookup_own_int _ rfl _ _ 53 rfl 3 3 .i64 lawI Try.underlying53 Try.underlying3 (zeroI _) w1.heap.size order.length D rfl hmapA _ _ rfl hkey1 ?_
                   intro c hatc hwc
                   rw [hat1] at hatc
                   have hce : (i1 : Int) = c := by injection hatc with hatc; injection hatc
                   subst hce)
                | (at_lookup
                   refine wpList_lookup_own_int _ rfl _ _ 53 rfl 3 3 .i64 lawI Try.underlying53 Try.underlying3 (zeroI _) w1.heap.size order.length D rfl hmapA _ _ rfl hkey2 ?_
                   intro c2 hatc2 hwc2
                   rw [hat2] at hatc2
                   have hce2 : (i2 : Int) = c2 := by injection hatc2 with hatc2; injection hatc2
                   subst hce2))
              go_ret
              rw [hV.out]
              exact ⟨rfl, (hb1.trans (HB.out.mono hb1.size)).trans (hbA.mono (Nat.le_trans hb1.size hbsz))⟩
            · have hgtI : ¬ (i2 : Int) < (i1 : Int) := by omega
              go_wp2_with (first
                | (at_lookup
                   refine wpList_lookup_own_int _ rfl _ _ 53 rfl 3 3 .i64 lawI Try.underlying53 Try.underlying3 (zeroI _) w1.heap.size order.length D rfl hmapA _ _ rfl hkey1 ?_
                   intro c hatc hwc
                   rw [hat1] at hatc
                   have hce : (i1 : Int) = c := by injection hatc with hatc; injection hatc
                   subst hce)
                | (at_lookup
                   refine wpList_lookup_own_int _ rfl _ _ 53 rfl 3 3 .i64 lawI Try.underlying53 Try.underlying3 (zeroI _) w1.heap.size order.length D rfl hmapA _ _ rfl hkey2 ?_
                   intro c2 hatc2 hwc2
                   rw [hat2] at hatc2
                   have hce2 : (i2 : Int) = c2 := by injection hatc2 with hatc2; injection hatc2
                   subst hce2))
              go_roundw
              case rel =>
                refine ⟨q + 1, by go_num, by omega, fun e' he' => ?_, hbA⟩
                rw [List.take_add_one, HE0.out] at he'
                rcases List.mem_append.1 he' with h | h
                · exact HHLE.out e' h
                · simp at h
                  rw [h, HI1.out, HI2.out]
                  omega
              case measure => simp [intOf]; omega
          · obtain rfl : q = E.length := by omega
            rw [List.take_length] at hle
            have hV : Hid (decide (Valid ps order) = true) := by
              rw [Hid, HVal.out, decide_eq_true_eq]
              refine ⟨HLEN.out, HALL.out, nodup_of_map _ HND.out, ?_⟩
              rw [HPE.out]
              exact hle
            clear hle
            go_wp2
            go_ret
            rw [hV.out]
            exact ⟨rfl, (hb1.trans (HB.out.mono hb1.size)).trans (hbq.mono (Nat.le_trans hb1.size hbsz))⟩
  · go_enter Try.func16, Try.ntmps16
    have hlB : ((order.length : Int) != (rd ps).1.length) = true := by simp; omega
    have hV : Hid (decide (Valid ps order) = false) := by
      rw [Hid, decide_eq_false_iff_not]
      intro h
      exact hl h.1
    clear hl
    go_wp2_with (go_at_call 23
                 with_reducible refine HR.out.mono ?_
                 rintro e w1 ⟨vn, ed, rfl, hgr, hed, hap, hb1⟩
                 obtain ⟨na, nc, rfl, hnc1, hnc2⟩ := TSort.shape hgr.names
                 obtain ⟨ea, ec, rfl, hec1, hec2⟩ := TSort.shape hed
                 have hnc3 : nc ≤ 9223372036854775807 := hnc2
                 have c0 : w1.cell? ⟨w.heap.size + 1, 0, none⟩ = some (.slice na (rd ps).1.length nc) := row_cell hgr.cells 0)
    go_ret
    rw [hV.out]
    exact ⟨rfl, hb1⟩
end Go.Proofs.Ytlnbkljajocfoaa.TValid
