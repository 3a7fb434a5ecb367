/- The law's paired: whether two elements are a pair of a list. -/
import Derived.Test.YtlnbkljajocfoaaTWithout
namespace Go.Proofs.Ytlnbkljajocfoaa.TPaired
open Go Go.RowKit Strs TWords TPairs TGraph TRead TPlace TElems TParse TCons TRefBefore TRefRemove TWithout

set_option maxHeartbeats 2000000 in
set_option maxRecDepth 100000 in
theorem paired_any (v0 : Value) (ps : List (Str × Str)) (x y : Str) (w : World) (hv : Prs w v0 ps) :
    Calls Try.prog 32 #[v0, .string ⟨x.toArray⟩, .string ⟨y.toArray⟩] w fun e w' => e = .returned (.bool (decide ((x, y) ∈ ps))) ∧ w = w' := by
  obtain ⟨a0, cc, rfl, ⟨hlc, hcm⟩, hcell⟩ := hv
  have hcm' : cc ≤ 9223372036854775807 := hcm
  go_enter Try.func32, Try.ntmps32
  go_wp2
  go_loopw [7] (fun i wr => ∃ q : Nat, q ≤ ps.length ∧ i = .int .i64 q ∧ wr = w ∧ ∀ (j : Nat) p, j < q → ps[j]? = some p → p ≠ (x, y)) (fun i _ => ps.length - (intOf i).toNat)
  case atStart => exact ⟨0, Nat.zero_le _, rfl, rfl, fun j y hj => by omega⟩
  case round =>
    obtain ⟨q, hq, rfl, rfl, hall⟩ := hrel
    by_cases hlt : q < ps.length
    · obtain ⟨p, hp⟩ : ∃ p, ps[q]? = some p := ⟨_, List.getElem?_eq_getElem hlt⟩
      obtain ⟨b, off, rfl, hc⟩ := hcell (by intro e; rw [e] at hlt; simp at hlt)
      obtain ⟨k0, k1⟩ := hc q p hp
      rw [Nat.mul_comm] at k0 k1
      have hql : (q : Int) < (ps.length : Int) := by omega
      obtain ⟨u, v⟩ := p
      simp only at k0 k1
      have hal2 : Hid ((u, v) ≠ (x, y) → ∀ (j : Nat) p, j < q + 1 → ps[j]? = some p → p ≠ (x, y)) := by
        intro hne j z hj hz
        by_cases hjq : j = q
        · subst hjq; rw [hp] at hz; have := Option.some.inj hz; rw [← this]; exact hne
        · exact hall j z (by omega) hz
      have hmem : Hid ((u, v) = (x, y) → decide ((x, y) ∈ ps) = true) := fun e => by
        have := List.mem_of_getElem? hp
        rw [e] at this
        simpa using this
      clear hcell hc hall hp
      cases h1 : (u == x) with
      | false =>
        have hne : (u, v) ≠ (x, y) := by intro e; injection e with e1 _; simp [e1] at h1
        have HA := Lib.hid (hal2.out hne)
        clear hne
        go_wp2
        go_roundw
        case rel => exact ⟨q + 1, by omega, by go_num, by trivial, HA.out⟩
        case measure => simp [intOf]; omega
      | true =>
        cases h2 : (v == y) with
        | false =>
          have hne : (u, v) ≠ (x, y) := by intro e; injection e with _ e2; simp [e2] at h2
          have HA := Lib.hid (hal2.out hne)
          clear hne
          go_wp2
          go_roundw
          case rel => exact ⟨q + 1, by omega, by go_num, by trivial, HA.out⟩
          case measure => simp [intOf]; omega
        | true =>
          have hd := Lib.hid (hmem.out (by rw [show u = x from by simpa using h1, show v = y from by simpa using h2]))
          go_wp2
          go_ret
          exact ⟨by rw [hd.out]; rfl, rfl⟩
    · obtain rfl : q = ps.length := by omega
      have hd : Hid (decide ((x, y) ∈ ps) = false) := by
        unfold Hid
        simp only [decide_eq_false_iff_not]
        intro hx
        obtain ⟨j, hj, e⟩ := List.getElem_of_mem hx
        exact hall j _ hj (by rw [List.getElem?_eq_getElem hj, e]) rfl
      clear hcell hall
      go_wp2
      go_ret
      exact ⟨by rw [hd.out]; rfl, rfl⟩
end Go.Proofs.Ytlnbkljajocfoaa.TPaired
