/- The examples of the chapter hold: awake returns true. -/
import Derived.Test.YtlnbkljajocfoaaTValid
namespace Go.Proofs.Ytlnbkljajocfoaa.TAwake
open Go Go.RowKit Topo Strs TPairs TParse TRead TOut TValid

def exPairs : List (Str × Str) := [([98], [99]), ([97], [98])]
theorem parse_ex (w : World) : Calls Try.prog 9 #[.string ⟨#[98, 32, 99, 32, 97, 32, 98]⟩] w fun e w' => ∃ a c, e = .returned (.tuple #[.slice a 2 c, .int .i64 0]) ∧ Prs w' (.slice a 2 c) exPairs ∧ Below w.heap.size w w' := by
  refine (parse_any ⟨#[98, 32, 99, 32, 97, 32, 98]⟩ w (by decide)).mono fun e w' ⟨hb, h⟩ => ?_
  have e1 : Wd.words [98, 32, 99, 32, 97, 32, 98] = [[98], [99], [97], [98]] := by decide +kernel
  have e2 : Wd.words (⟨#[98, 32, 99, 32, 97, 32, 98]⟩ : ByteArray).data.toList = [[98], [99], [97], [98]] := e1
  rw [e2, if_neg (by decide)] at h
  obtain ⟨v, B, rfl, hB, hr⟩ := h
  have e3 : pairUp [[98], [99], [97], [98]] = exPairs := by decide +kernel
  rw [e3] at hr
  have hp := Prs.of_row hr
  obtain ⟨a, c, rfl, h1, h2⟩ := hp
  exact ⟨a, c, rfl, ⟨a, c, rfl, h1, h2⟩, hb⟩
theorem sort_ex (v : Value) (w : World) (hv : Prs w v exPairs) : Calls Try.prog 12 #[v] w fun e w' => ∃ a c a3 c3, e = .returned (.tuple #[.slice a 3 c, .slice a3 0 c3]) ∧ Strs w' (.slice a 3 c) [[97], [98], [99]] ∧ Below w.heap.size w w' := by
  refine (TSort.sort_any v exPairs w hv (by decide) (by decide)).mono fun e w' ⟨v2, v3, K, he, _, hK, hmin, hs, hl, hb⟩ => ?_
  have hr : rd exPairs = ([[98], [99], [97]], [(0, 1), (2, 0)]) := by decide +kernel
  rw [hr] at hK hmin hs hl
  have hK3 : K = 3 := by
    rcases Nat.lt_trichotomy K 3 with h | h | h
    · have h0 : K = 0 ∨ K = 1 ∨ K = 2 := by omega
      exfalso
      rcases h0 with rfl | rfl | rfl
      · exact absurd hK (by decide +kernel)
      · exact absurd hK (by decide +kernel)
      · exact absurd hK (by decide +kernel)
    · exact h
    · exact absurd (hmin 3 h) (by decide +kernel)
  subst hK3
  have e1 : (run [(0, 1), (2, 0)] 3 3).order.map (nm [[98], [99], [97]]) = [[97], [98], [99]] := by decide +kernel
  have e2 : (run [(0, 1), (2, 0)] 3 3).cycles.map (List.map (nm [[98], [99], [97]])) = [] := by decide +kernel
  have hs' : Strs w' v2 ((run [(0, 1), (2, 0)] 3 3).order.map (nm [[98], [99], [97]])) := hs
  have hl' : Lists w' v3 ((run [(0, 1), (2, 0)] 3 3).cycles.map (List.map (nm [[98], [99], [97]]))) := hl
  rw [e1] at hs'
  rw [e2] at hl'
  obtain ⟨a, c, rfl, h1, h2⟩ := hs'
  obtain ⟨a3, c3, rfl, _⟩ := hl'
  exact ⟨a, c, a3, c3, he, ⟨a, c, rfl, h1, h2⟩, hb⟩
theorem valid_ex (v vo : Value) (w : World) (hv : Prs w v exPairs) (ho : Strs w vo [[97], [98], [99]]) : Calls Try.prog 16 #[v, vo] w fun e w' => e = .returned (.bool true) ∧ Below w.heap.size w w' := by
  refine (valid_any v vo exPairs [[97], [98], [99]] w hv ho (by decide) (by decide) (by decide)).mono fun e w' ⟨he, hb⟩ => ⟨?_, hb⟩
  rw [he]
  have : decide (Valid exPairs [[97], [98], [99]]) = true := by decide +kernel
  rw [this]
set_option maxHeartbeats 1000000 in
theorem awake_any (w : World) : Calls Try.prog 11 #[] w fun e w' => e = .returned (.bool true) ∧ Below w.heap.size w w' := by
  go_enter Try.func11, Try.ntmps11
  go_wp2_with (first
    | (go_at_call 9
       (with_reducible refine (parse_ex _).mono ?_)
       rintro e w1 ⟨a1, c1, rfl, hp1, hb1⟩)
    | (go_at_call 12
       (with_reducible refine (sort_ex _ w1 hp1).mono ?_)
       rintro e w2 ⟨a2, c2, a3, c3, rfl, hs2, hb2⟩
       have HS2 := Lib.hid hs2
       have HP2 := Lib.hid (hp1.below hb2)
       obtain ⟨a2', c2', e2, ⟨hc2, hm2⟩, hcell⟩ := hs2
       injection e2 with e21 e22 e23
       subst e21 e23
       obtain ⟨b, off, rfl, hc⟩ := hcell (by simp)
       have hm2' : c2 ≤ 9223372036854775807 := hm2
       have k0 : w2.cell? ⟨b, off, none⟩ = some (.string ⟨#[97]⟩) := hc 0 [97] rfl
       have k2 : w2.cell? ⟨b, off + 2, none⟩ = some (.string ⟨#[99]⟩) := hc 2 [99] rfl
       clear hcell hc e22)
    | (go_at_call 16
       (with_reducible refine (valid_ex _ _ w2 HP2.out HS2.out).mono ?_)
       rintro e w3 ⟨rfl, hb3⟩))
  go_ret
  exact ⟨rfl, (hb1.trans (hb2.mono hb1.size)).trans (hb3.mono (Nat.le_trans hb1.size hb2.size))⟩
end Go.Proofs.Ytlnbkljajocfoaa.TAwake
