/- The walk of TsortParses: the program's Parse and the reference's return the same pairs. -/
import Derived.Test.YtlnbkljajocfoaaTAwake
import Derived.BigQuiet
import Derived.Deep.QuietTactic
namespace Go.Proofs.Ytlnbkljajocfoaa.TsortParsesWalk
open Go Go.RowKit Strs TPairs TParse TAwake

set_option maxHeartbeats 2000000 in
theorem walk (s : ByteArray) (w : World) (_hs : s.size ≤ maxLen) (hu : s.size ≤ 1048576) :
    Calls Try.prog 3 #[.string s] w fun e w' => e = .returned (.bool true) ∧ Below w.heap.size w w' := by
  have HA := Lib.hid (fun W => awake_any W)
  have H1 := Lib.hid (parse_any s w (by omega))
  have H2 := Lib.hid (fun W => refParse_any s W (by omega))
  have hwl := Wd.words_length s.data.toList
  have hsz : s.data.toList.length = s.size := by simp
  by_cases hodd : (Wd.words s.data.toList).length % 2 = 1
  · go_enter Try.func3, Try.ntmps3
    have HO := Lib.hid hodd
    clear hodd
    go_wp2_with (first
      | (go_at_call 9
         (with_reducible refine H1.out.mono ?_)
         rintro e w1 ⟨hb1, h1⟩
         rw [if_pos HO.out] at h1
         subst h1)
      | (go_at_call 10
         (with_reducible refine (H2.out _).mono ?_)
         rintro e w2 ⟨hb2, h2⟩
         rw [if_pos HO.out] at h2
         subst h2))
    go_loopw [7] (fun i wr => i = .int .i64 0 ∧ wr = w2) (fun _ _ => 0)
    case atStart => exact ⟨rfl, rfl⟩
    case round =>
      obtain ⟨rfl, rfl⟩ := hrel
      go_wp2_with (go_at_call 11
                   (with_reducible refine (HA.out _).mono ?_)
                   rintro e w3 ⟨rfl, hb3⟩)
      go_ret
      exact ⟨rfl, (hb1.trans (hb2.mono hb1.size)).trans (hb3.mono (Nat.le_trans hb1.size hb2.size))⟩
  · go_enter Try.func3, Try.ntmps3
    have HO := Lib.hid hodd
    clear hodd
    go_wp2_with (first
      | (go_at_call 9
         (with_reducible refine H1.out.mono ?_)
         rintro e w1 ⟨hb1, h1⟩
         rw [if_neg HO.out] at h1
         obtain ⟨v1, B1, rfl, -, hr1⟩ := h1
         have hp1 := Prs.of_row hr1
         obtain ⟨a1, c1, rfl, ⟨hc1, hm1⟩, hcell1⟩ := hp1)
      | (go_at_call 10
         (with_reducible refine (H2.out _).mono ?_)
         rintro e w2 ⟨hb2, h2⟩
         rw [if_neg HO.out] at h2
         obtain ⟨v2, B2, rfl, -, hr2⟩ := h2
         have hp2 := Prs.of_row hr2
         obtain ⟨a2, c2, rfl, ⟨hc2, hm2⟩, hcell2⟩ := hp2))
    have hm1' : c1 ≤ 9223372036854775807 := hm1
    have hm2' : c2 ≤ 9223372036854775807 := hm2
    generalize pairUp (Wd.words s.data.toList) = ps at *
    clear hr1 hr2
    go_loopw [7] (fun i wr => ∃ k n : Nat, k ≤ ps.length ∧ i = .int .i64 k ∧ wr = w2.drewN n) (fun i _ => ps.length - (intOf i).toNat)
    case atStart => exact ⟨0, 0, Nat.zero_le _, rfl, rfl⟩
    case round =>
      obtain ⟨k, n, hk, rfl, rfl⟩ := hrel
      by_cases hlt : k < ps.length
      · obtain ⟨p, hp⟩ : ∃ p, ps[k]? = some p := ⟨_, List.getElem?_eq_getElem hlt⟩
        obtain ⟨b1, o1, rfl, hq1⟩ := hcell1 (by intro e; rw [e] at hlt; simp at hlt)
        obtain ⟨b2, o2, rfl, hq2⟩ := hcell2 (by intro e; rw [e] at hlt; simp at hlt)
        obtain ⟨x0, x1⟩ := hq1 k p hp
        obtain ⟨y0, y1⟩ := hq2 k p hp
        rw [Nat.mul_comm] at x0 x1 y0 y1
        have x0' := (hb2.cell (World.block_lt_of_cell? w1 _ x0)).trans x0
        have x1' := (hb2.cell (World.block_lt_of_cell? w1 _ x1)).trans x1
        have hki : (k : Int) < (ps.length : Int) := by omega
        clear hq1 hq2 hcell1 hcell2 x0 x1 hp
        go_wp2_with fail
        go_quiet (fail)
        go_wp2
        go_roundw
        case rel => exact ⟨k + 1, _, by omega, by go_num, rfl⟩
        case measure => simp [intOf]; omega
      · obtain rfl : k = ps.length := by omega
        clear hcell1 hcell2
        go_wp2_with (go_at_call 11
                     (with_reducible refine (HA.out _).mono ?_)
                     rintro e w3 ⟨rfl, hb3⟩)
        go_ret
        exact ⟨rfl, (hb1.trans (hb2.mono hb1.size)).trans ((Base.below_drewN (Below.refl w.heap.size w2) n).trans (hb3.mono (Nat.le_trans hb1.size hb2.size)))⟩
end Go.Proofs.Ytlnbkljajocfoaa.TsortParsesWalk
