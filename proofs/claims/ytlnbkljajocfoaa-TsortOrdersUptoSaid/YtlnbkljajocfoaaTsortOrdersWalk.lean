/- The walk of TsortOrders. -/
import Derived.Test.YtlnbkljajocfoaaTsortSortsWalk
import Derived.Test.YtlnbkljajocfoaaTsortJudgesWalk
import Derived.Test.YtlnbkljajocfoaaTOrderMath
import Derived.Test.YtlnbkljajocfoaaTRing
namespace Go.Proofs.Ytlnbkljajocfoaa.TsortOrdersWalk
open Go Go.RowKit Topo Strs TPairs TRead TGraph TOut TPlace TAwake TBulk TValid TRefMath TRefStep TOrderMath TRing TsortJudgesWalk

theorem rd_names (ps : List (Str × Str)) : ∀ x ∈ (rd ps).1, ∃ p ∈ ps, x = p.1 ∨ x = p.2 := by
  have hadd : ∀ (ls : List Str) (y x : Str), x ∈ addNew ls y → x ∈ ls ∨ x = y := by
    intro ls y x h
    unfold addNew at h
    split at h
    · exact .inl h
    · rcases List.mem_append.1 h with h | h
      · exact .inl h
      · exact .inr (List.mem_singleton.1 h)
  suffices h : ∀ (ps : List (Str × Str)) (st : List Str × List (Nat × Nat)), ∀ x ∈ (ps.foldl rstep st).1, x ∈ st.1 ∨ ∃ p ∈ ps, x = p.1 ∨ x = p.2 from fun x hx => by
    rcases h ps ([], []) x hx with h1 | h1
    · cases h1
    · exact h1
  intro ps
  induction ps with
  | nil => intro st x h; exact .inl h
  | cons p ps ih =>
    intro st x h
    rw [List.foldl_cons] at h
    rcases ih _ x h with h1 | ⟨q, hq, h1⟩
    · rcases hadd _ _ _ h1 with h2 | h2
      · rcases hadd _ _ _ h2 with h3 | h3
        · exact .inl h3
        · exact .inr ⟨p, List.mem_cons_self .., .inl h3⟩
      · exact .inr ⟨p, List.mem_cons_self .., .inr h2⟩
    · exact .inr ⟨q, List.mem_cons_of_mem _ hq, h1⟩
/-- what is known of what Sort returned -/
structure Sorted (ps : List (Str × Str)) (os : List Str) (cs : List (List Str)) : Prop where
  len : os.length = (rd ps).1.length
  valid : Valid ps os ↔ cs = []
  none : cs ≠ [] → ∀ o, ¬ Valid ps o
  all : ∀ x ∈ (rd ps).1, x ∈ os
  names : ∀ s ∈ os, ∃ p ∈ ps, s = p.1 ∨ s = p.2
  rings : ∀ c ∈ cs, c.Nodup ∧ 2 ≤ c.length ∧ c.length ≤ (rd ps).1.length ∧ ∀ i a b, c[i]? = some a → c[(i + 1) % c.length]? = some b → (a, b) ∈ ps
theorem sorted_of {w w' : World} {ps : List (Str × Str)} {e : Ending} (h : SPost w ps e w') : ∃ v2 v3 os cs, e = .returned (.tuple #[v2, v3]) ∧ Strs w' v2 os ∧ Lists w' v3 cs ∧ Sorted ps os cs ∧ Below w.heap.size w w' := by
  obtain ⟨v2, v3, K, he, -, hK, hmin, hs, hl, hb⟩ := h
  have hw := rd_wf ps
  have hn := rd_nodup ps
  obtain ⟨hg, -⟩ := run_good hw K hmin
  have hcons := cons_rd ps
  refine ⟨v2, v3, _, _, he, hs, hl, ⟨by rw [List.length_map]; exact hK, ?_, ?_, ?_, ?_, ?_⟩, hb⟩
  · rw [order_valid hmin hK]
    exact (List.map_eq_nil_iff).symm
  · intro hne o
    cases hcy : (run (rd ps).2 (rd ps).1.length K).cycles with
    | nil => rw [hcy] at hne; exact absurd rfl hne
    | cons c cs =>
      obtain ⟨h1, h2⟩ := hg.rings c (by rw [hcy]; exact List.mem_cons_self ..)
      exact cyc_invalid h1 h2 o
  · intro x hx
    obtain ⟨i, hi⟩ := List.getElem?_of_mem hx
    have hil := (List.getElem?_eq_some_iff.1 hi).1
    have : x = nm (rd ps).1 i := by have := nm_at hil; rw [hi] at this; exact Option.some.inj this
    exact List.mem_map.2 ⟨i, order_all hg hK i hil, this.symm⟩
  · intro s hs
    obtain ⟨k, hk, rfl⟩ := List.mem_map.1 hs
    exact rd_names ps _ (List.mem_of_getElem? (nm_at (hg.lt k hk)))
  · intro c hc
    obtain ⟨c0, hc0, rfl⟩ := List.mem_map.1 hc
    obtain ⟨h1, h2⟩ := hg.rings c0 hc0
    have hlt : ∀ x ∈ c0, x < (rd ps).1.length := by
      intro x hx
      obtain ⟨i, hi⟩ := List.getElem?_of_mem hx
      have hil := (List.getElem?_eq_some_iff.1 hi).1
      obtain ⟨y, hy⟩ : ∃ y, c0[(i + 1) % c0.length]? = some y := ⟨_, List.getElem?_eq_getElem (Nat.mod_lt _ (by omega))⟩
      exact (TStart.rd_ends ps _ (h1.2.2 i x y hi hy)).1
    refine ⟨names_nodup hn c0 hlt h1.2.1, by rw [List.length_map]; exact h2, by rw [List.length_map]; exact nodup_lt h1.2.1 hlt, fun i a b ha hb => ?_⟩
    rw [List.length_map] at hb
    rw [List.getElem?_map] at ha hb
    cases hx : c0[i]? with
    | none => rw [hx] at ha; cases ha
    | some x =>
      cases hy : c0[(i + 1) % c0.length]? with
      | none => rw [hy] at hb; cases hb
      | some y =>
        rw [hx] at ha
        rw [hy] at hb
        have e1 := Option.some.inj ha
        have e2 := Option.some.inj hb
        have hm : nmE (rd ps).1 (x, y) ∈ TCons.cons ps := by rw [hcons]; exact List.mem_map.2 ⟨(x, y), h1.2.2 i x y hx hy, rfl⟩
        unfold TCons.cons at hm
        have := (List.mem_filter.1 hm).1
        unfold nmE at this
        rw [← e1, ← e2]
        exact this
set_option maxHeartbeats 4000000 in
set_option maxRecDepth 100000 in
theorem walk (v : Value) (ps : List (Str × Str)) (vo : Value) (other : List Str) (w : World) (hv : Prs w v ps) (ho : Strs w vo other) (hu : ptotal ps ≤ 1048576) (hu2 : Crc.total other ≤ 1048576) :
    Calls Try.prog 6 #[v, vo] w fun e w' => e = .returned (.bool true) ∧ Below w.heap.size w w' := by
  have hf := ptotal_facts ps
  have hlen := rd_len ps
  have hs := fun p hp => hf.2 p hp
  have ht := total_le other
  have HA := Lib.hid (fun W => awake_any W)
  have H1 := Lib.hid (TSort.sort_any v ps w hv (by omega) (fun p hp => by have := hs p hp; omega))
  have H2 := Lib.hid (fun W (h : Prs W v ps) => TElems.elements_any v ps W h (by omega))
  have H3 := Lib.hid (fun u o W (h : Prs W v ps) (h2 : Strs W u o) (h3 : ∀ s ∈ o, s.length ≤ 1099511627776) => TValid.valid_any v u ps o W h h2 (by omega) (fun p hp => by have := hs p hp; omega) h3)
  have HT := Lib.hid (show ∀ s ∈ other, s.length ≤ 1099511627776 from fun s hs => by have := ht s hs; omega)
  have HS := Lib.hid hs
  have HV := Lib.hid hv
  have HOT := Lib.hid ho
  have hnl : (rd ps).1.length ≤ 2097152 := by omega
  clear hv ho hs ht hlen
  go_enter Try.func6, Try.ntmps6
  go_wp2_with (first
    | (go_at_call 12
       (with_reducible refine H1.out.mono ?_)
       rintro e w1 hp1
       obtain ⟨v2, v3, os, cs, rfl, hs2, hl3, hso, hb1⟩ := sorted_of hp1
       have HS2 := Lib.hid hs2
       have HL3 := Lib.hid hl3
       have HSO := Lib.hid hso
       obtain ⟨a2, c2, rfl, ⟨hc2, hm2⟩, -⟩ := hs2
       obtain ⟨a3, c3, rfl, ⟨hc3, hm3⟩, hcel3⟩ := hl3
       have hm2' : c2 ≤ 9223372036854775807 := hm2
       have hm3' : c3 ≤ 9223372036854775807 := hm3
       have HC3 := Lib.hid hcel3
       have HOL : Hid (os.length = (rd ps).1.length) := hso.len
       have hosz : Hid (∀ s ∈ os, s.length ≤ 1099511627776) := fun s hs => by
         obtain ⟨p, hp, h⟩ := hso.names s hs
         have := HS.out p hp
         rcases h with h | h
         · rw [h]; omega
         · rw [h]; omega
       clear hp1 hso hcel3)
    | (go_at_call 18
       (with_reducible refine (H2.out _ (HV.out.below hb1)).mono ?_)
       rintro e w2 ⟨v4, rfl, hr4, hb2⟩
       have hs4 := Strs.of_row (Own.Row.of hr4)
       have HS4 := Lib.hid hs4
       obtain ⟨a4, c4, rfl, ⟨hc4, hm4⟩, hcel4⟩ := hs4
       have hm4' : c4 ≤ 9223372036854775807 := hm4
       have HC4 := Lib.hid hcel4
       have holB : ((os.length : Int) != ((rd ps).1.length : Int)) = false := by rw [HOL.out]; simp
       clear hr4 hcel4))
  have hb12 : Below w.heap.size w w2 := hb1.trans (hb2.mono hb1.size)
  have HB12 := Lib.hid hb12
  have HB2 := Lib.hid hb2
  by_cases hcs : cs = []
  · have hval : decide (Valid ps os) = true := by rw [decide_eq_true_eq]; exact HSO.out.valid.2 hcs
    have hcl0 : (cs.length : Int) = 0 := by rw [hcs]; rfl
    have hcl1 : ((cs.length : Int) == 0) = true := by rw [hcl0]; rfl
    have hcl2 : ¬ (0 : Int) < (cs.length : Int) := by omega
    have HV1 := fun u W h1 h2 => H3.out u os W h1 h2 hosz.out
    rw [hval] at HV1
    have HHV1 := Lib.hid HV1
    clear HV1 hval hcs
    go_wp2_with (go_at_call 16
                 (with_reducible refine (HHV1.out _ _ (HV.out.below hb12) (HS2.out.below hb2)).mono ?_)
                 rintro e wl ⟨rfl, hbl⟩)
    clear hcl0 hcl1 hcl2
    have hbw : Below w.heap.size w wl := HB12.out.trans (hbl.mono HB12.out.size)
    have HBW := Lib.hid hbw
    have h1l : Below w1.heap.size w1 wl := HB2.out.trans (hbl.mono HB2.out.size)
    have HSL := Lib.hid (HS2.out.below h1l)
    have H1L := Lib.hid h1l
    have HBL := Lib.hid hbl
    have hnc : (rd ps).1.length ≤ c4 := hc4
    clear hbl hbw h1l
    go_loopw [8] (fun i wr => ∃ k : Nat, i = .int .i64 (k : Nat) ∧ k ≤ (rd ps).1.length ∧ wr = wl) (fun i _ => (rd ps).1.length - (intOf i).toNat)
    case atStart => exact ⟨0, rfl, Nat.zero_le _, rfl⟩
    case round =>
      obtain ⟨k, rfl, hk, rfl⟩ := hrel
      rename World => wl
      by_cases hlt : k < (rd ps).1.length
      · obtain ⟨x, hx⟩ : ∃ x, (rd ps).1[k]? = some x := ⟨_, List.getElem?_eq_getElem hlt⟩
        obtain ⟨b4, o4, rfl, hq4⟩ := HC4.out (by intro e; rw [e] at hlt; simp at hlt)
        have q0 := hq4 k x hx
        have k0 := (HBL.out.cell (World.block_lt_of_cell? w2 _ q0)).trans q0
        have hki : (k : Int) < ((rd ps).1.length : Int) := by omega
        have hP := place_any _ os x _ HSL.out
        have hin := HSO.out.all x (List.mem_of_getElem? hx)
        have hpl : ¬ place os x < 0 := by unfold place; rw [if_pos hin]; omega
        generalize place os x = pl at *
        have HP := Lib.hid hP
        clear hq4 q0 hP hx hin
        go_wp2_with (go_at_call 19
                     (with_reducible refine HP.out.mono ?_)
                     rintro e w9 ⟨rfl, rfl⟩)
        go_roundw
        case rel => exact ⟨k + 1, by go_num, by omega, by trivial⟩
        case measure => simp [intOf]; omega
      · obtain rfl : k = (rd ps).1.length := by omega
        clear hlt hk
        go_wp2_with fail
        go_loopw [9] (fun i wr => ∃ k n : Nat, i = .int .i64 (k : Nat) ∧ k ≤ cs.length ∧ wr = wl.drewN n) (fun i _ => cs.length - (intOf i).toNat)
        case atStart => exact ⟨0, 0, rfl, Nat.zero_le _, rfl⟩
        case round =>
          obtain ⟨k, n, rfl, hk, rfl⟩ := hrel
          by_cases hlt : k < cs.length
          · obtain ⟨c, hx⟩ : ∃ c, cs[k]? = some c := ⟨_, List.getElem?_eq_getElem hlt⟩
            obtain ⟨b3, rfl, hq3⟩ := HC3.out (by intro e; rw [e] at hlt; simp at hlt)
            obtain ⟨cv, q0, q1⟩ := hq3 k c hx
            have k0 := (H1L.out.cell (World.block_lt_of_cell? w1 ⟨b3, k, none⟩ q0)).trans q0
            obtain ⟨r1, r2, r3, r4⟩ := HSO.out.rings c (List.mem_of_getElem? hx)
            have HR := Lib.hid (ring_any v cv ps c (wl.drewN n) ((HV.out.below HBW.out).below (Base.below_drewN (Below.refl _ _) n)) ((q1.below H1L.out).drewN n) r1 r2 (by omega) r4)
            have hki : (k : Int) < (cs.length : Int) := by omega
            clear hq3 q0 q1 hx r1 r2 r3 r4
            go_wp2_with (go_at_call 20
                         (with_reducible refine HR.out.mono ?_)
                         rintro e w9 ⟨rfl, n2, rfl⟩)
            go_roundw
            case rel => exact ⟨k + 1, n + n2, by go_num, by omega, rfl⟩
            case measure => simp [intOf]; omega
          · obtain rfl : k = cs.length := by omega
            clear hlt hk
            go_wp2_with (go_at_call 11
                         (with_reducible refine (HA.out _).mono ?_)
                         rintro e w9 ⟨rfl, hb9⟩)
            go_ret
            exact ⟨rfl, (Base.below_drewN HBW.out n).trans (hb9.mono HBW.out.size)⟩
  · have hval : decide (Valid ps os) = false := by rw [decide_eq_false_iff_not]; exact HSO.out.none hcs os
    have hval2 : decide (Valid ps other) = false := by rw [decide_eq_false_iff_not]; exact HSO.out.none hcs other
    have hcpos := List.length_pos_iff.2 hcs
    have hcl1 : ((cs.length : Int) == 0) = false := by simp; omega
    have hcl2 : (0 : Int) < (cs.length : Int) := by omega
    have HV1 := fun u W h1 h2 => H3.out u os W h1 h2 hosz.out
    have HV2 := fun u W h1 h2 => H3.out u other W h1 h2 HT.out
    rw [hval] at HV1
    rw [hval2] at HV2
    have HHV1 := Lib.hid HV1
    have HHV2 := Lib.hid HV2
    clear HV1 HV2 hval hval2 hcs
    go_wp2_with (first
      | (go_at_call 16
         (with_reducible refine (HHV1.out _ _ (HV.out.below hb12) (HS2.out.below hb2)).mono ?_)
         rintro e w3 ⟨rfl, hb3⟩
         have hb13 : Below w.heap.size w w3 := HB12.out.trans (hb3.mono HB12.out.size))
      | (go_at_call 16
         (with_reducible refine (HHV2.out _ _ (HV.out.below hb13) (HOT.out.below hb13)).mono ?_)
         rintro e wl ⟨rfl, hb4⟩
         have hbl : Below w2.heap.size w2 wl := hb3.trans (hb4.mono hb3.size)))
    have hbw : Below w.heap.size w wl := HB12.out.trans (hbl.mono HB12.out.size)
    have HBW := Lib.hid hbw
    have h1l : Below w1.heap.size w1 wl := HB2.out.trans (hbl.mono HB2.out.size)
    have HSL := Lib.hid (HS2.out.below h1l)
    have H1L := Lib.hid h1l
    have HBL := Lib.hid hbl
    have hnc : (rd ps).1.length ≤ c4 := hc4
    clear hbl hbw h1l
    go_loopw [8] (fun i wr => ∃ k : Nat, i = .int .i64 (k : Nat) ∧ k ≤ (rd ps).1.length ∧ wr = wl) (fun i _ => (rd ps).1.length - (intOf i).toNat)
    case atStart => exact ⟨0, rfl, Nat.zero_le _, rfl⟩
    case round =>
      obtain ⟨k, rfl, hk, rfl⟩ := hrel
      rename World => wl
      by_cases hlt : k < (rd ps).1.length
      · obtain ⟨x, hx⟩ : ∃ x, (rd ps).1[k]? = some x := ⟨_, List.getElem?_eq_getElem hlt⟩
        obtain ⟨b4, o4, rfl, hq4⟩ := HC4.out (by intro e; rw [e] at hlt; simp at hlt)
        have q0 := hq4 k x hx
        have k0 := (HBL.out.cell (World.block_lt_of_cell? w2 _ q0)).trans q0
        have hki : (k : Int) < ((rd ps).1.length : Int) := by omega
        have hP := place_any _ os x _ HSL.out
        have hin := HSO.out.all x (List.mem_of_getElem? hx)
        have hpl : ¬ place os x < 0 := by unfold place; rw [if_pos hin]; omega
        generalize place os x = pl at *
        have HP := Lib.hid hP
        clear hq4 q0 hP hx hin
        go_wp2_with (go_at_call 19
                     (with_reducible refine HP.out.mono ?_)
                     rintro e w9 ⟨rfl, rfl⟩)
        go_roundw
        case rel => exact ⟨k + 1, by go_num, by omega, by trivial⟩
        case measure => simp [intOf]; omega
      · obtain rfl : k = (rd ps).1.length := by omega
        clear hlt hk
        go_wp2_with fail
        go_loopw [9] (fun i wr => ∃ k n : Nat, i = .int .i64 (k : Nat) ∧ k ≤ cs.length ∧ wr = wl.drewN n) (fun i _ => cs.length - (intOf i).toNat)
        case atStart => exact ⟨0, 0, rfl, Nat.zero_le _, rfl⟩
        case round =>
          obtain ⟨k, n, rfl, hk, rfl⟩ := hrel
          by_cases hlt : k < cs.length
          · obtain ⟨c, hx⟩ : ∃ c, cs[k]? = some c := ⟨_, List.getElem?_eq_getElem hlt⟩
            obtain ⟨b3, rfl, hq3⟩ := HC3.out (by intro e; rw [e] at hlt; simp at hlt)
            obtain ⟨cv, q0, q1⟩ := hq3 k c hx
            have k0 := (H1L.out.cell (World.block_lt_of_cell? w1 ⟨b3, k, none⟩ q0)).trans q0
            obtain ⟨r1, r2, r3, r4⟩ := HSO.out.rings c (List.mem_of_getElem? hx)
            have HR := Lib.hid (ring_any v cv ps c (wl.drewN n) ((HV.out.below HBW.out).below (Base.below_drewN (Below.refl _ _) n)) ((q1.below H1L.out).drewN n) r1 r2 (by omega) r4)
            have hki : (k : Int) < (cs.length : Int) := by omega
            clear hq3 q0 q1 hx r1 r2 r3 r4
            go_wp2_with (go_at_call 20
                         (with_reducible refine HR.out.mono ?_)
                         rintro e w9 ⟨rfl, n2, rfl⟩)
            go_roundw
            case rel => exact ⟨k + 1, n + n2, by go_num, by omega, rfl⟩
            case measure => simp [intOf]; omega
          · obtain rfl : k = cs.length := by omega
            clear hlt hk
            go_wp2_with (go_at_call 11
                         (with_reducible refine (HA.out _).mono ?_)
                         rintro e w9 ⟨rfl, hb9⟩)
            go_ret
            exact ⟨rfl, (Base.below_drewN HBW.out n).trans (hb9.mono HBW.out.size)⟩
end Go.Proofs.Ytlnbkljajocfoaa.TsortOrdersWalk
