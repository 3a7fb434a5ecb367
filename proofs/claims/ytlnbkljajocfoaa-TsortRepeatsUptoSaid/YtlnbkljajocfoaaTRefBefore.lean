/- The reference's before: the index of the first constraint that ends at an element, -1 if there is none. -/
import Derived.Test.YtlnbkljajocfoaaTCons
namespace Go.Proofs.Ytlnbkljajocfoaa.TRefBefore
open Go Go.RowKit Strs TWords TPairs TGraph TRead TPlace TElems TParse TCons

/-- the index of the first constraint that ends at x, or -1 -/
def bef (cs : List (Str × Str)) (x : Str) : Int := place (cs.map (·.2)) x
set_option maxHeartbeats 1000000 in
set_option maxRecDepth 100000 in
theorem before_any (v0 : Value) (ps : List (Str × Str)) (x : Str) (w : World) (hv : Prs w v0 ps) :
    Calls Try.prog 27 #[v0, .string ⟨x.toArray⟩] w fun e w' => e = .returned (.int .i64 (bef ps x)) ∧ w = w' := by
  obtain ⟨a0, cc, rfl, ⟨hlc, hcm⟩, hcell⟩ := hv
  have hcm' : cc ≤ 9223372036854775807 := hcm
  go_enter Try.func27, Try.ntmps27
  go_wp2
  go_loopw [5] (fun i wr => ∃ q : Nat, q ≤ ps.length ∧ i = .int .i64 q ∧ wr = w ∧ ∀ (j : Nat) y, j < q → (ps.map (·.2))[j]? = some y → y ≠ x) (fun i _ => ps.length - (intOf i).toNat)
  case atStart => exact ⟨0, Nat.zero_le _, rfl, rfl, fun j y hj => by omega⟩
  case round =>
    obtain ⟨q, hq, rfl, rfl, hall⟩ := hrel
    by_cases hlt : q < ps.length
    · obtain ⟨p, hp⟩ : ∃ p, ps[q]? = some p := ⟨_, List.getElem?_eq_getElem hlt⟩
      have hy : (ps.map (·.2))[q]? = some p.2 := by rw [List.getElem?_map, hp]; rfl
      obtain ⟨b, off, rfl, hc⟩ := hcell (by intro e; rw [e] at hlt; simp at hlt)
      have k0 := (hc q p hp).2
      rw [Nat.mul_comm] at k0
      have hql : (q : Int) < (ps.length : Int) := by omega
      obtain ⟨z, y⟩ := p
      simp only at hy k0
      by_cases hyx : y = x
      · subst hyx
        have hb : Hid (bef ps y = (q : Int)) := by
          unfold Hid bef place; rw [if_pos (List.mem_of_getElem? hy), idxOf_at hy hall]
        clear hcell hc hall hy hp
        go_wp2
        go_ret
        exact ⟨by rw [hb.out]; rfl, rfl⟩
      · have hal2 : Hid (∀ (j : Nat) z, j < q + 1 → (ps.map (·.2))[j]? = some z → z ≠ x) := by
          intro j z hj hz
          by_cases hjq : j = q
          · subst hjq; rw [hy] at hz; have := Option.some.inj hz; rw [← this]; exact hyx
          · exact hall j z (by omega) hz
        have hne : (y == x) = false := by simpa using hyx
        clear hcell hc hall hy hp
        go_wp2
        go_roundw
        case rel => exact ⟨q + 1, by omega, by go_num, by trivial, hal2.out⟩
        case measure => simp [intOf]; omega
    · obtain rfl : q = ps.length := by omega
      have hb : Hid (bef ps x = -1) := by
        unfold Hid bef place
        rw [if_neg]
        intro hx
        obtain ⟨j, hj, e⟩ := List.getElem_of_mem hx
        exact hall j x (by simpa using hj) (by rw [List.getElem?_eq_getElem hj, e]) rfl
      clear hcell hall
      go_wp2
      go_ret
      exact ⟨by rw [hb.out]; rfl, rfl⟩
end Go.Proofs.Ytlnbkljajocfoaa.TRefBefore
