/- The walk of TsortRepeats. -/
import Derived.Test.YtlnbkljajocfoaaTAwake
import Derived.Test.YtlnbkljajocfoaaTRepeatMath
import Derived.Test.YtlnbkljajocfoaaTSame
import Derived.Test.YtlnbkljajocfoaaTBulk
import Derived.Test.YtlnbkljajocfoaaTAppendFirst
import Derived.Test.YtlnbkljajocfoaaTRepApp
namespace Go.Proofs.Ytlnbkljajocfoaa.TsortRepeatsWalk
open Go Go.RowKit Topo Strs TWords TPairs TParse TGraph TRead TOut TAwake TSame TBulk TRepeatMath TAppendFirst TRepApp TCycle

/-- what is repeated -/
def reps (l : List (Str × Str)) : List (Str × Str) := l.flatMap fun p => [p, (p.2, p.2)]
theorem reps_step (ps : List (Str × Str)) (k : Nat) (p : Str × Str) (h : ps[k]? = some p) : reps (ps.take (k + 1)) = reps (ps.take k) ++ [p, (p.2, p.2)] := by
  unfold reps
  rw [List.take_add_one, h, List.flatMap_append]
  rfl
theorem reps_length : ∀ l : List (Str × Str), (reps l).length = 2 * l.length
  | [] => rfl
  | p :: l => by
    have := reps_length l
    unfold reps at this ⊢
    rw [List.flatMap_cons, List.length_append, this]
    simp
    omega
theorem reps_mem (ps : List (Str × Str)) (k : Nat) : ∀ q ∈ reps (ps.take k), q ∈ ps ∨ q.1 = q.2 ∧ q.1 ∈ (rd ps).1 := by
  intro q hq
  unfold reps at hq
  obtain ⟨p, hp, hq⟩ := List.mem_flatMap.1 hq
  have hpp := List.mem_of_mem_take hp
  simp at hq
  rcases hq with rfl | rfl
  · exact .inl hpp
  · exact .inr ⟨rfl, (named ps p hpp).2⟩
theorem sizes (ps : List (Str × Str)) (B : Nat) (h : ∀ p ∈ ps, p.1.length ≤ B ∧ p.2.length ≤ B) (k : Nat) : ∀ p ∈ ps ++ reps (ps.take k), p.1.length ≤ B ∧ p.2.length ≤ B := by
  intro q hq
  rcases List.mem_append.1 hq with h1 | h1
  · exact h q h1
  · unfold reps at h1
    obtain ⟨p, hp, hq⟩ := List.mem_flatMap.1 h1
    have hpp := h p (List.mem_of_mem_take hp)
    simp at hq
    rcases hq with rfl | rfl
    · exact hpp
    · exact ⟨hpp.2, hpp.2⟩
theorem SPost.below {w w' : World} {ps : List (Str × Str)} {e : Ending} (h : SPost w ps e w') : Below w.heap.size w w' := by
  obtain ⟨v2, v3, K, he, -, hK, hmin, hs, hl, hb⟩ := h
  exact hb
theorem SPost.form {w w' : World} {ps : List (Str × Str)} {e : Ending} (h : SPost w ps e w') : ∃ v2 v3, e = .returned (.tuple #[v2, v3]) := by
  obtain ⟨v2, v3, K, he, -⟩ := h
  exact ⟨v2, v3, he⟩
set_option maxHeartbeats 4000000 in
set_option maxRecDepth 100000 in
theorem walk (v : Value) (ps : List (Str × Str)) (n : Int) (w : World) (hv : Prs w v ps) (hu : ptotal ps ≤ 1048576) :
    Calls Try.prog 8 #[v, .int .i64 n] w fun e w' => e = .returned (.bool true) ∧ Below w.heap.size w w' := by
  have hf := ptotal_facts ps
  have hs := fun p hp => hf.2 p hp
  obtain ⟨i0, hi, hz0, hz1, hz2⟩ := info_parts pair_info
  have HA := Lib.hid (fun W => awake_any W)
  have HSZ : Hid (∀ p ∈ ps, p.1.length ≤ 1099511627776 ∧ p.2.length ≤ 1099511627776) := fun p hp => by have := hs p hp; omega
  have hn : ps.length ≤ 1048576 := by omega
  have H1 := Lib.hid (TSort.sort_any v ps w hv (by omega) HSZ.out)
  have HV := Lib.hid hv
  obtain ⟨pa, pc, rfl, ⟨hpc, hpm⟩, hpcell⟩ := hv
  have hpm' : pc ≤ 9223372036854775807 := hpm
  have HPC := Lib.hid hpcell
  have hpl := pcells_length ps
  have HPL := Lib.hid hpl
  clear hs hf hpcell hpl
  go_enter Try.func8, Try.ntmps8
  go_wp2_with (first
    | (go_at_call 12
       (with_reducible refine H1.out.mono ?_)
       rintro e w1 hp1
       obtain ⟨v2, v3, rfl⟩ := SPost.form hp1
       have hb1 := SPost.below hp1)
    | (at_builtin
       refine wpList_append_first w1 rfl _ _ _ rfl w1.heap.size 27 i0 _ 2 32 Try.underlying22 hi hz0 hz1 hz2 rfl (by omega) rfl pa ps.length pc (pcells ps) rfl (by rw [HPL.out]; omega) ?_ (pcells_one ps) (by unfold maxLen; omega) (by omega) (Nat.le_refl _) ?_
       · intro hne
         obtain ⟨b, off, e0, hc⟩ := HPC.out (by intro e; rw [e] at hne; simp at hne)
         exact ⟨_, e0, fun j u hj => by
           have h0 := pcells_at (w := w) (fun j x hx => hc j x hx) j u hj
           exact (hb1.cell (World.block_lt_of_cell? w _ h0)).trans h0⟩
       intro v7 w2 hr7 hb2))
  have HP1 := Lib.hid hp1
  have HB1 := Lib.hid hb1
  have HR7 := Lib.hid hr7
  clear hp1
  go_loopw [7, 8] (fun v7 i wr => ∃ k : Nat, i = .int .i64 (k : Nat) ∧ k ≤ ps.length ∧ wr.ownsRow w1.heap.size 27 2 v7 (ps.length + 2 * k) (pcells (ps ++ reps (ps.take k))) ∧ Below w1.heap.size w1 wr) (fun _ i _ => ps.length - (intOf i).toNat)
  case atStart => exact ⟨0, rfl, Nat.zero_le _, by simpa [reps] using HR7.out, hb2⟩
  case round =>
    clear hr7 hb2 HR7
    obtain ⟨k, rfl, hk, hrow, hb⟩ := hrel
    by_cases hlt : k < ps.length
    · have hki : (k : Int) < (ps.length : Int) := by omega
      by_cases hkn : (k : Int) < n
      · obtain ⟨p, hp⟩ : ∃ p, ps[k]? = some p := ⟨_, List.getElem?_eq_getElem hlt⟩
        obtain ⟨b2, o2, rfl, hq2⟩ := HPC.out (by intro e; rw [e] at hlt; simp at hlt)
        obtain ⟨x0, x1⟩ := hq2 k p hp
        rw [Nat.mul_comm] at x0 x1
        have hbw := HB1.out.trans (hb.mono HB1.out.size)
        have k0 := (hbw.cell (World.block_lt_of_cell? w _ x0)).trans x0
        have k1 := (hbw.cell (World.block_lt_of_cell? w _ x1)).trans x1
        have HST := Lib.hid (reps_step ps k p hp)
        obtain ⟨va, vc, rfl, hvc1, hvc2⟩ := TSort.shape hrow
        have hvc3 : vc ≤ 9223372036854775807 := hvc2
        have hblk := ownsRow_block hrow
        have hbs := hb.size
        have HB := Lib.hid hb
        have hL : (pcells (ps ++ reps (ps.take k))).length = 2 * (ps ++ reps (ps.take k)).length := pcells_length _
        generalize hcp : pcells (ps ++ reps (ps.take k)) = cp at *
        have HCP := Lib.hid hcp
        obtain ⟨x, y⟩ := p
        simp only at k0 k1
        clear hq2 x0 x1 hp hbw hb hcp hL
        go_wp2_with fail
        refine app_region _ _ ps.length pc b2 o2 k w1.heap.size (ps.length + 2 * k) vc va x y cp (by exact Nat.le_of_ble_eq_true rfl) rfl rfl rfl k0 k1 hlt hrow hbs (by omega) _ _ ?_
        intro g3 cap3 w3 x_ hown3 hb3 hx7
        have HX7 := Lib.hid hx7
        clear hx7
        go_wp2
        go_roundw
        case rel =>
          refine ⟨k + 1, by go_num, by omega, ?_, HB.out.trans hb3⟩
          rw [HX7.out, HST.out, ← List.append_assoc, pcells_append, HCP.out, show ps.length + 2 * (k + 1) = ps.length + 2 * k + 2 from by omega]
          exact hown3
        case measure => simp [intOf]; omega
      · skip
        have HK := Lib.hid hk
        have hlen2 : (ps ++ reps (ps.take k)).length = ps.length + 2 * k := by rw [List.length_append, reps_length, List.length_take]; omega
        have hpm2 : Prs wr u7 (ps ++ reps (ps.take k)) := by
          rw [← hlen2] at hrow
          exact Prs.of_row hrow
        have H9 := Lib.hid (TSort.sort_any u7 (ps ++ reps (ps.take k)) wr hpm2 (by rw [hlen2]; omega) (sizes ps _ HSZ.out k))
        have HB := Lib.hid hb
        clear hrow hpm2 hlen2 hk hb
        go_wp2_with (first
          | (go_at_call 12
             (with_reducible refine H9.out.mono ?_)
             rintro e w5 hp5
             obtain ⟨u2, u3, rfl⟩ := SPost.form hp5
             have hb5 := SPost.below hp5
             have hb15 : Below w1.heap.size w1 w5 := HB.out.trans (hb5.mono HB.out.size)
             obtain ⟨_, _, _, _, os, cs, he1, he2, hs1, hl1, hs2, hl2⟩ := more_post (reps_mem ps k) HP1.out hp5
             injection he1 with he1
             injection he1 with he1
             injection he2 with he2
             injection he2 with he2
             simp only [Array.mk.injEq, List.cons.injEq, and_true] at he1 he2
             obtain ⟨rfl, rfl⟩ := he1
             obtain ⟨rfl, rfl⟩ := he2
             have HS := Lib.hid (same_any _ _ os os w5 (hs1.below hb15) hs2)
             have HC := Lib.hid (fun n => cycles_any _ _ cs cs (w5.drewN n) ((hl1.below hb15).below (Base.below_drewN (Below.refl _ _) n)) (hl2.below (Base.below_drewN (Below.refl _ _) n)))
             have hd1 : decide (os = os) = true := by simp
             have hd2 : decide (cs = cs) = true := by simp
             rw [hd1] at HS
             rw [hd2] at HC
             have HB15 := Lib.hid hb15
             clear hp5 hs1 hs2 hl1 hl2 hb15 hb5)
          | (go_at_call 14
             (with_reducible refine HS.out.mono ?_)
             rintro e w6 ⟨rfl, n1, rfl⟩)
          | (go_at_call 15
             (with_reducible refine (HC.out _).mono ?_)
             rintro e w7 ⟨rfl, n2, rfl⟩)
          | (go_at_call 11
             (with_reducible refine (HA.out _).mono ?_)
             rintro e w8 ⟨rfl, hb8⟩))
        go_ret
        have h15 := HB1.out.trans (HB15.out.mono HB1.out.size)
        exact ⟨rfl, (Base.below_drewN h15 (n1 + n2)).trans (hb8.mono h15.size)⟩
    · have hki : ¬ (k : Int) < (ps.length : Int) := by omega
      clear hlt
      have HK := Lib.hid hk
      have hlen2 : (ps ++ reps (ps.take k)).length = ps.length + 2 * k := by rw [List.length_append, reps_length, List.length_take]; omega
      have hpm2 : Prs wr u7 (ps ++ reps (ps.take k)) := by
        rw [← hlen2] at hrow
        exact Prs.of_row hrow
      have H9 := Lib.hid (TSort.sort_any u7 (ps ++ reps (ps.take k)) wr hpm2 (by rw [hlen2]; omega) (sizes ps _ HSZ.out k))
      have HB := Lib.hid hb
      clear hrow hpm2 hlen2 hk hb
      go_wp2_with (first
        | (go_at_call 12
           (with_reducible refine H9.out.mono ?_)
           rintro e w5 hp5
           obtain ⟨u2, u3, rfl⟩ := SPost.form hp5
           have hb5 := SPost.below hp5
           have hb15 : Below w1.heap.size w1 w5 := HB.out.trans (hb5.mono HB.out.size)
           obtain ⟨_, _, _, _, os, cs, he1, he2, hs1, hl1, hs2, hl2⟩ := more_post (reps_mem ps k) HP1.out hp5
           injection he1 with he1
           injection he1 with he1
           injection he2 with he2
           injection he2 with he2
           simp only [Array.mk.injEq, List.cons.injEq, and_true] at he1 he2
           obtain ⟨rfl, rfl⟩ := he1
           obtain ⟨rfl, rfl⟩ := he2
           have HS := Lib.hid (same_any _ _ os os w5 (hs1.below hb15) hs2)
           have HC := Lib.hid (fun n => cycles_any _ _ cs cs (w5.drewN n) ((hl1.below hb15).below (Base.below_drewN (Below.refl _ _) n)) (hl2.below (Base.below_drewN (Below.refl _ _) n)))
           have hd1 : decide (os = os) = true := by simp
           have hd2 : decide (cs = cs) = true := by simp
           rw [hd1] at HS
           rw [hd2] at HC
           have HB15 := Lib.hid hb15
           clear hp5 hs1 hs2 hl1 hl2 hb15 hb5)
        | (go_at_call 14
           (with_reducible refine HS.out.mono ?_)
           rintro e w6 ⟨rfl, n1, rfl⟩)
        | (go_at_call 15
           (with_reducible refine (HC.out _).mono ?_)
           rintro e w7 ⟨rfl, n2, rfl⟩)
        | (go_at_call 11
           (with_reducible refine (HA.out _).mono ?_)
           rintro e w8 ⟨rfl, hb8⟩))
      go_ret
      have h15 := HB1.out.trans (HB15.out.mono HB1.out.size)
      exact ⟨rfl, (Base.below_drewN h15 (n1 + n2)).trans (hb8.mono h15.size)⟩
end Go.Proofs.Ytlnbkljajocfoaa.TsortRepeatsWalk
