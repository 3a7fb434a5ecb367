/- KNoted; KAdd: merged into one text: lemmas for the walk of the law. No condition. -/
import Derived.Test.YtkekpiillbpciaaGreatDoorR11
import Derived.Test.YtkekpiillbpciaaGreatDoorR1
import Derived.Maps.AppendAt
import Derived.Test.YtkekpiillbpciaaGreatDoorR4
/- Reports that are collected: what the reference's noted returns. -/
namespace Go.Proofs.YtkekpiillbpciaaGreatDoor.KSame
open Go Go.RowKit KeyMath Strs KNum
set_option maxRecDepth 100000
theorem rep_info : (Tryz.prog.info? 60).map (fun i => (i.zero, i.size, i.bytes)) = some (some (.agg #[.int .i64 0, .int .i64 0]), 2, 16) := by kernel_rfl
def rcells (rs : List (Int × Int)) : List Value := rs.flatMap fun x => [.int .i64 x.1, .int .i64 x.2]
theorem rcells_snoc (rs : List (Int × Int)) (x : Int × Int) : rcells (rs ++ [x]) = rcells rs ++ [.int .i64 x.1, .int .i64 x.2] := by simp [rcells]
set_option maxHeartbeats 4000000 in
theorem noted_any (a : Value) (rs : List (Int × Int)) (kind idx : Int) (base : Nat) (w : World) (hrow : w.ownsRow base 60 2 a rs.length (rcells rs)) (hn : rs.length ≤ 1000) (hbase : base ≤ w.heap.size) :
    Calls Tryz.prog 21 #[a, .int .i64 kind, .int .i64 idx] w fun e w' => ∃ v', e = .returned v' ∧ w'.ownsRow base 60 2 v' (noted rs kind idx).length (rcells (noted rs kind idx)) ∧ Below base w w' := by
  obtain ⟨i0, hi, hz0, hz1, hz2⟩ := info_parts rep_info
  have n1 : rs.length + 1 ≤ maxLen := by unfold maxLen; omega
  have n2 : (rs.length + 1) * 16 ≤ 140737488355328 := by omega
  have hrow0 : (w.alloc (.cells #[.int .i64 kind, .int .i64 idx] 60)).ownsRow base 60 2 a rs.length (rcells rs) := KRefCmp.ownsRow_keep hrow (fun k hk => Below.heap_alloc _ _ _ (KRefCmp.ownsRow_block hrow k hk).2)
  have HRow := Lib.hid hrow
  have HRow0 := Lib.hid hrow0
  clear hrow hrow0
  go_enter Tryz.func21, Tryz.ntmps21
  by_cases h0 : idx < 0
  · have HR : Hid (noted rs kind idx = rs) := by show _ = _; unfold noted; rw [if_pos h0]
    go_wp2
    go_ret
    exact ⟨a, rfl, by rw [HR.out]; exact HRow.out, Below.refl _ _⟩
  · have HR : Hid (noted rs kind idx = rs ++ [(kind, idx)]) := by show _ = _; unfold noted; rw [if_neg h0]
    go_wp2_with (at_builtin
                 refine wpList_append_own (w.alloc (.cells #[.int .i64 kind, .int .i64 idx] 60)) rfl _ _ 31 rfl base 60 i0 (.agg #[.int .i64 0, .int .i64 0]) 2 16 Tryz.underlying31 hi hz0 hz1 hz2 rfl (by decide) _ rs.length (rcells rs) rfl HRow0.out ⟨w.heap.size, 0, none⟩ 1 1 [.int .i64 kind, .int .i64 idx] rfl rfl ?cells (by simp [Value.oneCell']) n1 n2 (by simp; omega) ?_
                 rotate_left 1
                 intro v' w2 hown' hgrow _)
    · go_ret
      refine ⟨v', rfl, ?_, ((Below.refl _ _).alloc hbase _).grown hgrow (by simp; omega) (fun k hk => (KRefCmp.ownsRow_block HRow.out k hk).1)⟩
      rw [HR.out, rcells_snoc, List.length_append]
      exact hown'
    all_goals exact True.intro
end Go.Proofs.YtkekpiillbpciaaGreatDoor.KSame

/- Reports that are collected: what the program's add does. -/
namespace Go.Proofs.YtkekpiillbpciaaGreatDoor.KSame
open Go Go.RowKit KeyMath Strs KNum KEach
set_option maxRecDepth 100000
/-- a block that holds the collected reports -/
def Rep1 (w : World) (b : Nat) (v : Value) : Prop := w.heap[b]? = some (.cells #[v] 63 (0, 0))
theorem Rep1.cell {w : World} {b : Nat} {v : Value} (h : Rep1 w b v) : w.cell? ⟨b, 0, none⟩ = some v ∧ w.frozen? ⟨b, 0, none⟩ = false ∧ b < w.heap.size := by
  refine ⟨by rw [cell_of_row w b _ _ _ _ h]; rfl, ?_, (Array.getElem?_eq_some_iff.1 h).1⟩
  unfold Rep1 at h
  simp [World.frozen?, h]
theorem Rep1.set {w : World} {b : Nat} {v : Value} (h : Rep1 w b v) (u : Value) : Rep1 (w.setCell ⟨b, 0, none⟩ u) b u := by
  unfold Rep1 at *
  rw [setCell_eq_setRow w b 0 _ _ _ u h]
  simpa using setRow_heap w b _ _ _ _ h
set_option maxHeartbeats 4000000 in
theorem add_any (a : Value) (rs : List (Int × Int)) (kind idx : Int) (b base : Nat) (w : World) (hb : Rep1 w b a) (hrow : w.ownsRow base 60 2 a rs.length (rcells rs)) (hbase : b < base) (hbw : base ≤ w.heap.size) (hn : rs.length ≤ 1000) :
    Calls Tryz.prog 14 #[.pointer (some ⟨b, 0, none⟩), .int .i64 kind, .int .i64 idx] w fun e w' => e = .returned (.tuple #[]) ∧ (∃ v', Rep1 w' b v' ∧ w'.ownsRow base 60 2 v' (noted rs kind idx).length (rcells (noted rs kind idx))) ∧ Adds w b base w' := by
  obtain ⟨i0, hi, hz0, hz1, hz2⟩ := info_parts rep_info
  have n1 : rs.length + 1 ≤ maxLen := by unfold maxLen; omega
  have n2 : (rs.length + 1) * 16 ≤ 140737488355328 := by omega
  have hrow0 : (w.alloc (.cells #[.int .i64 kind, .int .i64 idx] 60)).ownsRow base 60 2 a rs.length (rcells rs) := KRefCmp.ownsRow_keep hrow (fun k hk => Below.heap_alloc _ _ _ (KRefCmp.ownsRow_block hrow k hk).2)
  obtain ⟨c0, f0, l0⟩ := hb.cell
  have HB := Lib.hid hb
  have HRow := Lib.hid hrow
  have HRow0 := Lib.hid hrow0
  obtain ⟨va, vn, vc, rfl⟩ : ∃ ao n' cap, a = .slice ao n' cap := by
    rcases hrow.2 with ⟨hv, _⟩ | ⟨g, cap, cur, hv, _⟩
    · exact ⟨_, _, _, hv⟩
    · exact ⟨_, _, _, hv⟩
  clear hrow hrow0 hb
  go_enter Tryz.func14, Tryz.ntmps14
  by_cases h0 : idx < 0
  · have HR : Hid (noted rs kind idx = rs) := by show _ = _; unfold noted; rw [if_pos h0]
    have h0' : ¬ 0 ≤ idx := by omega
    go_wp2
    go_end0
    exact ⟨rfl, ⟨_, HB.out, by rw [HR.out]; exact HRow.out⟩, Adds.refl _ _ _⟩
  · have HR : Hid (noted rs kind idx = rs ++ [(kind, idx)]) := by show _ = _; unfold noted; rw [if_neg h0]
    have h0' : 0 ≤ idx := by omega
    go_wp2_with (at_builtin
                 refine wpList_append_own (w.alloc (.cells #[.int .i64 kind, .int .i64 idx] 60)) rfl _ _ 63 rfl base 60 i0 (.agg #[.int .i64 0, .int .i64 0]) 2 16 Tryz.underlying63 hi hz0 hz1 hz2 rfl (by decide) _ rs.length (rcells rs) rfl HRow0.out ⟨w.heap.size, 0, none⟩ 1 1 [.int .i64 kind, .int .i64 idx] rfl rfl ?cells (by simp [Value.oneCell']) n1 n2 (by simp; omega) ?_
                 rotate_left 1
                 intro v' w2 hown' hgrow _
                 have hB2 : Rep1 w2 b (.slice va vn vc) := (hgrow.block b (by simp; omega) (fun e => by have := (KRefCmp.ownsRow_block HRow.out b e.symm).1; omega)).trans ((Below.heap_alloc _ _ _ l0).trans HB.out)
                 obtain ⟨d0, e0, m0⟩ := hB2.cell
                 obtain ⟨ua, un, uc, rfl⟩ : ∃ ao n' cap, v' = .slice ao n' cap := (by
                   rcases hown'.2 with ⟨hv, _⟩ | ⟨g, cap, cur, hv, _⟩
                   · exact ⟨_, _, _, hv⟩
                   · exact ⟨_, _, _, hv⟩))
    · go_end0
      have hbel : Below base w w2 := ((Below.refl _ _).alloc hbw _).grown hgrow (by simp; omega) (fun k hk => (KRefCmp.ownsRow_block HRow.out k hk).1)
      refine ⟨rfl, ⟨_, hB2.set _, ?_⟩, ((Adds.refl w b base).below hbel (Nat.le_refl _)).trans ⟨rfl, rfl, rfl, by simp, fun k hk hne => Below.heap_setCell _ _ _ _ hne⟩⟩
      rw [HR.out, rcells_snoc, List.length_append]
      exact KRefCmp.ownsRow_keep hown' (fun k hk => Below.heap_setCell _ _ _ _ (by have := (KRefCmp.ownsRow_block hown' k hk).1; simp; omega))
    all_goals exact True.intro
end Go.Proofs.YtkekpiillbpciaaGreatDoor.KSame
