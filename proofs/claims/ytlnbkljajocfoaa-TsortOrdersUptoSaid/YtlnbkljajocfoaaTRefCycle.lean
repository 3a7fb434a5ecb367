/- The reference's cycle: the cycle that is found from the first element that is left. -/
import Derived.Test.YtlnbkljajocfoaaTRefTurn
namespace Go.Proofs.Ytlnbkljajocfoaa.TRefCycle
open Go Go.RowKit Strs Topo TWords TPairs TGraph TRead TPlace TElems TParse TCons TRefBefore TRefMath TRefTurn TCycle

theorem turnedS_length (named q : List Str) : (turnedS named q).length = q.length := by simp [turnedS]
set_option maxHeartbeats 2000000 in
set_option maxRecDepth 100000 in
theorem cycle_any (vl vo : Value) (left : List Str) (cs : List (Str × Str)) (x0 : Str) (P : Str → Prop) (w : World) (hl : Strs w vl left) (ho : Prs w vo cs) (h0 : left[0]? = some x0) (hP0 : P x0) (hPm : ∀ y, P y → y ∈ left) (hPs : ∀ y, P y → y ∈ cs.map (·.2) ∧ P (prevS cs y)) (hn : left.length ≤ 33554432) (N : Nat) (hN : left.length < N) :
    Calls Try.prog 30 #[vl, vo] w fun e w' => ∃ v', e = .returned v' ∧ w'.ownsRow w.heap.size 9 1 v' (turnedS left (wayS cs N [] x0)).length (cellsOf (turnedS left (wayS cs N [] x0))) ∧ Below w.heap.size w w' := by
  obtain ⟨i0, hi, hz0, hz1, hz2⟩ := info_parts str_info
  have HL := Lib.hid hl
  have HO := Lib.hid ho
  obtain ⟨la, lc, rfl, ⟨hlc, hlm⟩, hlcell⟩ := hl
  obtain ⟨lb, loff, rfl, hlc0⟩ := hlcell (by intro e; rw [e] at h0; simp at h0)
  have hlm' : lc ≤ 9223372036854775807 := hlm
  have k0 := hlc0 0 x0 h0
  rw [Nat.add_zero] at k0
  have hlen0 : 0 < left.length := (List.getElem?_eq_some_iff.1 h0).1
  have hlen0' : (0 : Int) < (left.length : Int) := by omega
  obtain ⟨oa, oc, rfl, ⟨hoc, hom⟩, hocell⟩ := ho
  have hom' : oc ≤ 9223372036854775807 := hom
  obtain ⟨R, hR⟩ : ∃ R, wayS cs N [] x0 = R := ⟨_, rfl⟩
  obtain ⟨N', rfl⟩ : ∃ N', N = N' + 1 := ⟨N - 1, by omega⟩
  have hst0 : wayS cs N' [x0] (prevS cs x0) = R := by
    rw [← hR]
    show _ = if x0 ∈ ([] : List Str) then _ else _
    rw [if_neg (by simp)]
    rfl
  rw [hR]
  clear hlc0 hlcell h0 hR
  go_enter Try.func30, Try.ntmps30
  go_wp2
  go_loopw [5] (fun v5 wr => ∃ (path : List Str) (f : Nat) (y : Str), path.getLast? = some y ∧ path.Nodup ∧ (∀ z ∈ path, P z) ∧ f + path.length = N' + 1 ∧ wr.ownsRow w.heap.size 9 1 v5 path.length (cellsOf path) ∧ Below w.heap.size w wr ∧ wayS cs f path (prevS cs y) = R) (fun v5 _ => left.length + 1 - sliceLen v5)
  case atStart =>
    exact ⟨[x0], N', x0, rfl, by simp, fun z hz => by rw [List.mem_singleton] at hz; rw [hz]; exact hP0, rfl, ⟨rfl, .inr ⟨w.heap.size, 1, #[.string ⟨x0.toArray⟩], rfl, Nat.le_refl _, heap_alloc_new w _, Nat.le_refl _, by unfold maxLen; omega, rfl, rfl⟩⟩, (Below.refl _ _).alloc (Nat.le_refl _) _, hst0⟩
  case round =>
    obtain ⟨path, f, y, hy, hnd, hPp, hf, hrow, hb, hway⟩ := hrel
    have hym : y ∈ path := List.mem_of_getLast? hy
    have hpl := List.length_pos_of_mem hym
    have hple := sub_len path left hnd (fun z hz => hPm z (hPp z hz))
    obtain ⟨h1, h2⟩ := hPs y (hPp y hym)
    obtain ⟨p, hp1, hp2⟩ := find_place cs y h1
    have hpx : prevS cs y = p.1 := by unfold prevS; rw [hp1]
    have hbef : bef cs y = (((cs.map (·.2)).idxOf y : Nat) : Int) := by unfold bef place; rw [if_pos h1]
    generalize hjj : (cs.map (·.2)).idxOf y = j at *
    have hjl : j < cs.length := (List.getElem?_eq_some_iff.1 hp2).1
    have hjI : (j : Int) < (cs.length : Int) := by omega
    obtain ⟨ob, ooff, rfl, hoc0⟩ := hocell (by intro e; rw [e] at hjl; simp at hjl)
    have q0 := (hoc0 j p hp2).1
    rw [Nat.mul_comm] at q0
    have c0 := (hb.cell (World.block_lt_of_cell? w _ q0)).trans q0
    rw [hpx] at hway h2
    have hst := Strs.of_row (Own.Row.of hrow)
    have HST := Lib.hid hst
    obtain ⟨pa, pc, rfl, ⟨hpc, hpm⟩, hpcell⟩ := hst
    obtain ⟨pb, poff, rfl, hpc0⟩ := hpcell (by intro e; rw [e] at hpl; simp at hpl)
    have hpm' : pc ≤ 9223372036854775807 := hpm
    obtain ⟨m, hm⟩ : ∃ m, path.length = m + 1 := ⟨path.length - 1, by omega⟩
    have kl : wr.cell? ⟨pb, poff + m, none⟩ = some (.string ⟨y.toArray⟩) := hpc0 m y (by rw [List.getLast?_eq_getElem?, hm] at hy; simpa using hy)
    have hB := Lib.hid (before_any _ cs y wr (HO.out.below hb))
    rw [hbef] at hB
    obtain ⟨x, yy⟩ := p
    simp only at c0 hway h2
    have hblk := ownsRow_block hrow
    have hbs := hb.size
    by_cases hx : x ∈ path
    · have hpl2 : place path x = (path.idxOf x : Nat) := by unfold place; rw [if_pos hx]
      have hid := List.idxOf_lt_length_of_mem hx
      have hPL := Lib.hid (place_any _ path x wr HST.out)
      have hT := Lib.hid (turned_any _ _ path left (path.idxOf x) wr HST.out (HL.out.below hb) hid (by omega))
      rw [hpl2] at hPL
      obtain ⟨f', rfl⟩ : ∃ f', f = f' + 1 := ⟨f - 1, by omega⟩
      unfold wayS at hway
      rw [if_pos hx] at hway
      rw [hway] at hT
      have hRl : (turnedS left R).length = path.length - path.idxOf x := by rw [turnedS_length, ← hway]; simp
      have HRL := Lib.hid hRl
      generalize path.idxOf x = d at *
      have hdI : (0 : Int) ≤ (d : Int) := by omega
      rw [hm] at hrow hPL hT
      have HB := Lib.hid hb
      have hmle : m ≤ 33554432 := by omega
      rw [hm]
      rw [hm] at hpc
      clear hway hpc0 hpcell hocell hoc0 hp1 hp2 h1 h2 hPs hPp hnd hy hbef hpx hjj hst0 hRl hym hPm hP0 q0 hple hf
      go_wp2_with (first
        | (go_at_call 27
           (with_reducible refine hB.out.mono ?_)
           rintro e w1 ⟨rfl, rfl⟩)
        | (go_at_call 19
           (with_reducible refine hPL.out.mono ?_)
           rintro e w1 ⟨rfl, rfl⟩)
        | (go_at_call 42
           (with_reducible refine hT.out.mono ?_)
           rintro e w1 ⟨v1, rfl, hrow1, hb1⟩))
      go_ret
      refine ⟨_, rfl, ?_, HB.out.trans (hb1.mono HB.out.size)⟩
      rw [HRL.out, hm]
      exact ownsRow_mono hrow1 HB.out.size
    · have hpl2 : place path x = -1 := by unfold place; rw [if_neg hx]
      have hPL := Lib.hid (place_any _ path x wr HST.out)
      rw [hpl2] at hPL
      obtain ⟨f', rfl⟩ : ∃ f', f = f' + 1 := ⟨f - 1, by omega⟩
      unfold wayS at hway
      rw [if_neg hx] at hway
      have hnd2 : (path ++ [x]).Nodup := by
        rw [List.nodup_append]
        exact ⟨hnd, by simp, fun a ha b hb => by rw [List.mem_singleton] at hb; subst hb; exact fun e => hx (e ▸ ha)⟩
      have hP2 : ∀ z ∈ path ++ [x], P z := fun z hz => by
        rcases List.mem_append.1 hz with h | h
        · exact hPp z h
        · rw [List.mem_singleton] at h; rw [h]; exact h2
      have HW := Lib.hid hway
      have HN := Lib.hid hnd2
      have HP := Lib.hid hP2
      have hf2 : f' + (path ++ [x]).length = N' + 1 := by simp; omega
      have HF := Lib.hid hf2
      have HBl := Lib.hid hb
      have hpm2 : path.length ≤ 33554432 := by omega
      generalize hcp : cellsOf path = cp at *
      have HCP := Lib.hid hcp
      rw [hm] at hrow hPL
      rw [hm]
      rw [hm] at hpc
      have HM := Lib.hid hm
      have HPLE := Lib.hid hple
      have hmle : m ≤ 33554432 := by omega
      clear hway hpc0 hpcell hocell hoc0 hp1 hp2 h1 h2 hPs hPp hnd hy hbef hpx hjj hst0 hym hPm hP0 q0 hnd2 hP2 hcp hf2 hm hf hb hple hpm2 hpl
      go_wp2_with (first
        | (go_at_call 27
           (with_reducible refine hB.out.mono ?_)
           rintro e w1 ⟨rfl, rfl⟩)
        | (go_at_call 19
           (with_reducible refine hPL.out.mono ?_)
           rintro e w1 ⟨rfl, rfl⟩)
        | (at_builtin
           refine wpList_append_lies _ rfl _ _ _ rfl w.heap.size 9 i0 _ 1 16 Try.underlying30 hi hz0 hz1 hz2 rfl (by omega) _ (m + 1) cp rfl (hrow.alloc _) ⟨wr.heap.size, 0, none⟩ 1 1 [.string ⟨x.toArray⟩] rfl rfl (World.news_of_block (cs := #[.string ⟨x.toArray⟩]) (t := 9) (fr := (0, 0)) (heap_alloc_new wr _)) (by simp [Value.oneCell']) (by omega) (by unfold maxLen; omega) (by omega) (by simp; omega) (wr.heap.size + 1) (by simp) ?_
           intro gg cap w2 hown2 hgrow hat hlt2))
      have hlx : (path ++ [x]).length = m + 1 + 1 := by rw [List.length_append, HM.out]; rfl
      go_roundw
      case rel =>
        refine ⟨path ++ [x], f', x, by simp, HN.out, HP.out, HF.out, ?_, (HBl.out.alloc hbs _).grown hgrow (by simp; omega) (fun q hq => (hblk q hq).1), HW.out⟩
        rw [hlx, cellsOf_append, HCP.out]
        exact hown2
      case measure =>
        have g1 := HM.out
        have g2 := HPLE.out
        have g3 := HF.out
        simp [sliceLen]
        omega
end Go.Proofs.Ytlnbkljajocfoaa.TRefCycle
