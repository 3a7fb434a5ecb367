/- tsort.Parse and the reference's Parse return the words of a string in pairs, or the error, for strings of at most 2^40 bytes. -/
import Derived.Test.YtlnbkljajocfoaaTPairs
namespace Go.Proofs.Ytlnbkljajocfoaa.TParse
open Go Go.RowKit Strs TWords TRefWords TPairs

/-- the words taken in pairs -/
def pairAt (ls : List Str) (j : Nat) : Str × Str := (ls.getD (2 * j) [], ls.getD (2 * j + 1) [])
def pairsTo (ls : List Str) (m : Nat) : List (Str × Str) := (List.range m).map (pairAt ls)
def pairUp (ls : List Str) : List (Str × Str) := pairsTo ls (ls.length / 2)
theorem pairsTo_succ (ls : List Str) (m : Nat) : pairsTo ls (m + 1) = pairsTo ls m ++ [pairAt ls m] := by simp [pairsTo, List.range_succ]
theorem pairsTo_length (ls : List Str) (m : Nat) : (pairsTo ls m).length = m := by simp [pairsTo]
/-- what a call of Parse leaves -/
def PPost (w : World) (l : List UInt8) (e : Ending) (w' : World) : Prop :=
  Below w.heap.size w w' ∧ if (Wd.words l).length % 2 = 1 then e = .returned (.tuple #[.slice none 0 0, .int .i64 1]) else
    ∃ v B, e = .returned (.tuple #[v, .int .i64 0]) ∧ w.heap.size ≤ B ∧ w'.ownsRow B 27 2 v (pairUp (Wd.words l)).length (pcells (pairUp (Wd.words l)))
theorem pair_info : (Try.prog.info? 27).map (fun i => (i.zero, i.size, i.bytes)) = some (some (.agg #[.string ⟨#[]⟩, .string ⟨#[]⟩]), 2, 32) := by kernel_rfl

set_option maxHeartbeats 2000000 in
set_option maxRecDepth 100000 in
theorem parse_any (s : ByteArray) (w : World) (hs : s.size ≤ 1099511627776) :
    Calls Try.prog 9 #[.string s] w (PPost w s.data.toList) := by
  have hsl : s.data.toList.length = s.size := by simp
  have hwl := Wd.words_length s.data.toList
  obtain ⟨i0, hi, hz0, hz1, hz2⟩ := info_parts pair_info
  have hwd := Lib.hid fun w => words_any s w hs
  by_cases hodd : (Wd.words s.data.toList).length % 2 = 1
  · have hmod : (((Wd.words s.data.toList).length : Int) % 2 != 0) = true := by simp; omega
    have hmod1 : (((Wd.words s.data.toList).length : Int) % 2 == 1) = true := by simp; omega
    go_enter Try.func9, Try.ntmps9
    go_wp2_with (go_at_call 21
                 (with_reducible refine (hwd.out _).mono ?_)
                 rintro e w1 ⟨v, rfl, hrow, hb1⟩
                 have hstrs := Strs.of_row hrow
                 generalize hls : Wd.words s.data.toList = ls at *
                 obtain ⟨a, cc, rfl, ⟨hlc, hcm⟩, -⟩ := hstrs
                 have hcm' : cc ≤ 9223372036854775807 := hcm
                 clear hrow)
    go_ret2
    refine ⟨hb1, ?_⟩
    rw [hls, if_pos hodd]
    rfl
  · have hmod : (((Wd.words s.data.toList).length : Int) % 2 != 0) = false := by simp; omega
    have hmod1 : (((Wd.words s.data.toList).length : Int) % 2 == 1) = false := by simp; omega
    go_enter Try.func9, Try.ntmps9
    go_wp2_with (go_at_call 21
                 (with_reducible refine (hwd.out _).mono ?_)
                 rintro e w1 ⟨v, rfl, hrow, hb1⟩
                 have hstrs := Strs.of_row hrow
                 generalize hls : Wd.words s.data.toList = ls at *
                 obtain ⟨a, cc, rfl, ⟨hlc, hcm⟩, hcell⟩ := hstrs
                 have hcm' : cc ≤ 9223372036854775807 := hcm
                 clear hrow)
    obtain ⟨m, hm⟩ : ∃ m, ls.length = 2 * m := ⟨ls.length / 2, by omega⟩
    clear hmod hmod1
    go_loopw [5, 6] (fun o i wr => ∃ j : Nat, j ≤ m ∧ i = .int .i64 ((2 * j : Nat) : Int) ∧ wr.ownsRow w1.heap.size 27 2 o j (pcells (pairsTo ls j)) ∧ Below w1.heap.size w1 wr) (fun _ i _ => ls.length - (intOf i).toNat)
    case atStart => exact ⟨0, Nat.zero_le _, rfl, ⟨by simp [pairsTo, pcells], .inl ⟨rfl, rfl⟩⟩, Below.refl _ _⟩
    case round =>
      obtain ⟨j, hj, rfl, hown, hb⟩ := hrel
      have hl := pairsTo_succ ls j
      obtain ⟨q, hq⟩ : ∃ q, q = 2 * j := ⟨_, rfl⟩
      rw [← hq]
      by_cases hlt : j < m
      · obtain ⟨b, off, rfl, hc⟩ := hcell (by intro e; rw [e] at hm; simp at hm; omega)
        have g0 : ls[q]? = some (pairAt ls j).1 := by
          rw [hq, List.getElem?_eq_getElem (by omega)]; simp only [pairAt]; rw [List.getD_eq_getElem?_getD, List.getElem?_eq_getElem (by omega)]; rfl
        have g1 : ls[q + 1]? = some (pairAt ls j).2 := by
          rw [hq, List.getElem?_eq_getElem (by omega)]; simp only [pairAt]; rw [List.getD_eq_getElem?_getD, List.getElem?_eq_getElem (by omega)]; rfl
        have k0 := hc q _ g0
        have k1 := hc (q + 1) _ g1
        have c0 := (hb.cell (World.block_lt_of_cell? w1 _ k0)).trans k0
        have c1 := (hb.cell (World.block_lt_of_cell? w1 _ k1)).trans k1
        have hl1 := World.block_lt_of_cell? wr _ c0
        have hqn : q + 1 < ls.length := by omega
        have hpc : Hid (pcells (pairsTo ls (j + 1)) = pcells (pairsTo ls j) ++ [.string ⟨(pairAt ls j).1.toArray⟩, .string ⟨(pairAt ls j).2.toArray⟩]) := by
          rw [Hid, hl, pcells_append]; rfl
        generalize (⟨(pairAt ls j).1.toArray⟩ : ByteArray) = x at *
        generalize (⟨(pairAt ls j).2.toArray⟩ : ByteArray) = y at *
        have hbs := hb.size
        clear g0 g1 k0 k1 hc hcell hl
        have hi1 : (q : Int) + 1 < (ls.length : Int) := by omega
        have hi0 : (q : Int) < (ls.length : Int) := by omega
        have hj63 : j + 1 ≤ maxLen := by unfold maxLen; omega
        have hj47 : (j + 1) * 32 ≤ 140737488355328 := by omega
        have hq63 : q + 2 < 9223372036854775807 := by omega
        have hwr : IntKind.i64.wrap ((q : Int) + 1) = (q : Int) + 1 := by have := Base.wrap_add q 1 (by omega); simpa using this
        have htn : ((q : Int) + 1).toNat = q + 1 := by omega
        have hp0 : (0 : Int) ≤ (q : Int) + 1 := by omega
        have HQ := Lib.hid hq
        have HM := Lib.hid hm
        have HJ := Lib.hid hj
        have HT := Lib.hid hlt
        clear hq hm hj hlt hodd hwl hlc hsl hls
        generalize ls.length = n at *
        go_wp2_with fail
        go_region_law
          ((refine step_append_lies _ (by rfl) _ _ _ (by rfl) w1.heap.size 27 i0 _ 2 32 Try.underlying22 hi hz0 hz1 hz2 rfl (by omega) _ j (pcells (pairsTo ls j)) (by rfl) ((hown.alloc _).drew)
              ⟨wr.heap.size, 0, none⟩ 1 1 [.string x, .string y] (by rfl) (by rfl) (World.news_of_block (cs := #[.string x, .string y]) (t := 27) (fr := (0, 0)) (heap_alloc_new wr _)) (by simp [Value.oneCell'])
              (by omega) hj63 hj47 (by simp; omega) (wr.heap.size + 1) (by simp) ?_; intro gg cap w2 hown1 hgrow hat hlt2))
        all_goals go_wp2
        all_goals
          refine ⟨⟨j + 1, HT.out, congrArg (Value.int .i64) (by have := HQ.out; omega), by rw [hpc.out]; exact hown1, (hb.alloc hbs _).drew.grown hgrow (by simp; omega) (fun k hk => (ownsRow_block hown k hk).1)⟩, ?_⟩
          simp [intOf]
          omega
      · obtain rfl : j = m := by omega
        have hqn : ¬ ((q : Int) < (ls.length : Int)) := by omega
        have hup : Hid (pairUp ls = pairsTo ls j) := by
          unfold Hid pairUp; rw [show ls.length / 2 = j from by omega]
        have hul : (pairUp ls).length = j := by rw [hup.out, pairsTo_length]
        have HQ := Lib.hid hq
        have HM := Lib.hid hm
        have HO := Lib.hid hodd
        have HL := Lib.hid hls
        clear hq hm hodd hcell hls hl
        go_wp2
        go_ret2
        refine ⟨hb1.trans (hb.mono hb1.size), ?_⟩
        rw [HL.out, if_neg HO.out]
        refine ⟨_, w1.heap.size, rfl, hb1.size, ?_⟩
        rw [hul, hup.out]
        exact hown
set_option maxHeartbeats 2000000 in
set_option maxRecDepth 100000 in
theorem refParse_any (s : ByteArray) (w : World) (hs : s.size ≤ 1099511627776) :
    Calls Try.prog 10 #[.string s] w (PPost w s.data.toList) := by
  have hsl : s.data.toList.length = s.size := by simp
  have hwl := Wd.words_length s.data.toList
  obtain ⟨i0, hi, hz0, hz1, hz2⟩ := info_parts pair_info
  have hwd := Lib.hid fun w => refWords_any s w hs
  by_cases hodd : (Wd.words s.data.toList).length % 2 = 1
  · have hmod : (((Wd.words s.data.toList).length : Int) % 2 != 0) = true := by simp; omega
    have hmod1 : (((Wd.words s.data.toList).length : Int) % 2 == 1) = true := by simp; omega
    go_enter Try.func10, Try.ntmps10
    go_wp2_with (go_at_call 22
                 (with_reducible refine (hwd.out _).mono ?_)
                 rintro e w1 ⟨v, rfl, hrow, hb1⟩
                 have hstrs := Strs.of_row hrow
                 generalize hls : Wd.words s.data.toList = ls at *
                 obtain ⟨a, cc, rfl, ⟨hlc, hcm⟩, -⟩ := hstrs
                 have hcm' : cc ≤ 9223372036854775807 := hcm
                 clear hrow)
    go_ret2
    refine ⟨hb1, ?_⟩
    rw [hls, if_pos hodd]
    rfl
  · have hmod : (((Wd.words s.data.toList).length : Int) % 2 != 0) = false := by simp; omega
    have hmod1 : (((Wd.words s.data.toList).length : Int) % 2 == 1) = false := by simp; omega
    go_enter Try.func10, Try.ntmps10
    go_wp2_with (go_at_call 22
                 (with_reducible refine (hwd.out _).mono ?_)
                 rintro e w1 ⟨v, rfl, hrow, hb1⟩
                 have hstrs := Strs.of_row hrow
                 generalize hls : Wd.words s.data.toList = ls at *
                 obtain ⟨a, cc, rfl, ⟨hlc, hcm⟩, hcell⟩ := hstrs
                 have hcm' : cc ≤ 9223372036854775807 := hcm
                 clear hrow)
    obtain ⟨m, hm⟩ : ∃ m, ls.length = 2 * m := ⟨ls.length / 2, by omega⟩
    clear hmod hmod1
    go_loopw [5, 6] (fun o i wr => ∃ j : Nat, j ≤ m ∧ i = .int .i64 ((2 * j : Nat) : Int) ∧ wr.ownsRow w1.heap.size 27 2 o j (pcells (pairsTo ls j)) ∧ Below w1.heap.size w1 wr) (fun _ i _ => ls.length - (intOf i).toNat)
    case atStart => exact ⟨0, Nat.zero_le _, rfl, ⟨by simp [pairsTo, pcells], .inl ⟨rfl, rfl⟩⟩, Below.refl _ _⟩
    case round =>
      obtain ⟨j, hj, rfl, hown, hb⟩ := hrel
      have hl := pairsTo_succ ls j
      obtain ⟨q, hq⟩ : ∃ q, q = 2 * j := ⟨_, rfl⟩
      rw [← hq]
      by_cases hlt : j < m
      · obtain ⟨b, off, rfl, hc⟩ := hcell (by intro e; rw [e] at hm; simp at hm; omega)
        have g0 : ls[q]? = some (pairAt ls j).1 := by
          rw [hq, List.getElem?_eq_getElem (by omega)]; simp only [pairAt]; rw [List.getD_eq_getElem?_getD, List.getElem?_eq_getElem (by omega)]; rfl
        have g1 : ls[q + 1]? = some (pairAt ls j).2 := by
          rw [hq, List.getElem?_eq_getElem (by omega)]; simp only [pairAt]; rw [List.getD_eq_getElem?_getD, List.getElem?_eq_getElem (by omega)]; rfl
        have k0 := hc q _ g0
        have k1 := hc (q + 1) _ g1
        have c0 := (hb.cell (World.block_lt_of_cell? w1 _ k0)).trans k0
        have c1 := (hb.cell (World.block_lt_of_cell? w1 _ k1)).trans k1
        have hl1 := World.block_lt_of_cell? wr _ c0
        have hqn : q + 1 < ls.length := by omega
        have hpc : Hid (pcells (pairsTo ls (j + 1)) = pcells (pairsTo ls j) ++ [.string ⟨(pairAt ls j).1.toArray⟩, .string ⟨(pairAt ls j).2.toArray⟩]) := by
          rw [Hid, hl, pcells_append]; rfl
        generalize (⟨(pairAt ls j).1.toArray⟩ : ByteArray) = x at *
        generalize (⟨(pairAt ls j).2.toArray⟩ : ByteArray) = y at *
        have hbs := hb.size
        clear g0 g1 k0 k1 hc hcell hl
        have hi1 : (q : Int) + 1 < (ls.length : Int) := by omega
        have hi0 : (q : Int) < (ls.length : Int) := by omega
        have hj63 : j + 1 ≤ maxLen := by unfold maxLen; omega
        have hj47 : (j + 1) * 32 ≤ 140737488355328 := by omega
        have hq63 : q + 2 < 9223372036854775807 := by omega
        have hwr : IntKind.i64.wrap ((q : Int) + 1) = (q : Int) + 1 := by have := Base.wrap_add q 1 (by omega); simpa using this
        have htn : ((q : Int) + 1).toNat = q + 1 := by omega
        have hp0 : (0 : Int) ≤ (q : Int) + 1 := by omega
        have HQ := Lib.hid hq
        have HM := Lib.hid hm
        have HJ := Lib.hid hj
        have HT := Lib.hid hlt
        clear hq hm hj hlt hodd hwl hlc hsl hls
        generalize ls.length = n at *
        go_wp2_with fail
        go_region_law
          ((refine step_append_lies _ (by rfl) _ _ _ (by rfl) w1.heap.size 27 i0 _ 2 32 Try.underlying22 hi hz0 hz1 hz2 rfl (by omega) _ j (pcells (pairsTo ls j)) (by rfl) ((hown.alloc _).drew)
              ⟨wr.heap.size, 0, none⟩ 1 1 [.string x, .string y] (by rfl) (by rfl) (World.news_of_block (cs := #[.string x, .string y]) (t := 27) (fr := (0, 0)) (heap_alloc_new wr _)) (by simp [Value.oneCell'])
              (by omega) hj63 hj47 (by simp; omega) (wr.heap.size + 1) (by simp) ?_; intro gg cap w2 hown1 hgrow hat hlt2))
        all_goals go_wp2
        all_goals
          refine ⟨⟨j + 1, HT.out, congrArg (Value.int .i64) (by have := HQ.out; omega), by rw [hpc.out]; exact hown1, (hb.alloc hbs _).drew.grown hgrow (by simp; omega) (fun k hk => (ownsRow_block hown k hk).1)⟩, ?_⟩
          simp [intOf]
          omega
      · obtain rfl : j = m := by omega
        have hqn : ¬ ((q : Int) < (ls.length : Int)) := by omega
        have hup : Hid (pairUp ls = pairsTo ls j) := by
          unfold Hid pairUp; rw [show ls.length / 2 = j from by omega]
        have hul : (pairUp ls).length = j := by rw [hup.out, pairsTo_length]
        have HQ := Lib.hid hq
        have HM := Lib.hid hm
        have HO := Lib.hid hodd
        have HL := Lib.hid hls
        clear hq hm hodd hcell hls hl
        go_wp2
        go_ret2
        refine ⟨hb1.trans (hb.mono hb1.size), ?_⟩
        rw [HL.out, if_neg HO.out]
        refine ⟨_, w1.heap.size, rfl, hb1.size, ?_⟩
        rw [hul, hup.out]
        exact hown
end Go.Proofs.Ytlnbkljajocfoaa.TParse
