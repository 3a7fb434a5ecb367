/- The reference's Place returns the index of a string in a list, -1 if it is not there. -/
import Derived.Test.YtlnbkljajocfoaaTGraph
namespace Go.Proofs.Ytlnbkljajocfoaa.TPlace
open Go Go.RowKit Strs TWords TPairs TGraph

/-- the place of a string: its index, or -1 -/
def place (ls : List Str) (x : Str) : Int := if x ∈ ls then (ls.idxOf x : Nat) else -1
theorem idxOf_at {ls : List Str} {x : Str} {q : Nat} (h : ls[q]? = some x) (hb : ∀ (j : Nat) y, j < q → ls[j]? = some y → y ≠ x) : ls.idxOf x = q := by
  induction ls generalizing q with
  | nil => simp at h
  | cons a l ih =>
    cases q with
    | zero => simp at h; subst h; simp
    | succ q =>
      have h0 := hb 0 a (by omega) rfl
      have h0' : (a == x) = false := by simpa using h0
      rw [List.idxOf_cons, h0']
      simp only [cond_false]
      rw [ih (by simpa using h) (fun j y hj hy => hb (j + 1) y (by omega) (by simpa using hy))]
set_option maxHeartbeats 1000000 in
set_option maxRecDepth 100000 in
theorem place_any (v : Value) (ls : List Str) (x : Str) (w : World) (h : Strs w v ls) :
    Calls Try.prog 19 #[v, .string ⟨x.toArray⟩] w fun e w' => e = .returned (.int .i64 (place ls x)) ∧ w = w' := by
  obtain ⟨a, c, rfl, ⟨hl, hm⟩, hcell⟩ := h
  have hm' : c ≤ 9223372036854775807 := hm
  go_enter Try.func19, Try.ntmps19
  go_wp2
  go_loopw [5] (fun i wr => ∃ q : Nat, q ≤ ls.length ∧ i = .int .i64 q ∧ wr = w ∧ ∀ (j : Nat) y, j < q → ls[j]? = some y → y ≠ x) (fun i _ => ls.length - (intOf i).toNat)
  case atStart => exact ⟨0, Nat.zero_le _, rfl, rfl, fun j y hj => by omega⟩
  case round =>
    obtain ⟨q, hq, rfl, rfl, hall⟩ := hrel
    by_cases hlt : q < ls.length
    · obtain ⟨y, hy⟩ : ∃ y, ls[q]? = some y := ⟨_, List.getElem?_eq_getElem hlt⟩
      obtain ⟨b, off, rfl, hc⟩ := hcell (by intro e; rw [e] at hlt; simp at hlt)
      have k0 := hc q y hy
      have hql : (q : Int) < (ls.length : Int) := by omega
      by_cases hyx : y = x
      · subst hyx
        have hp : Hid (place ls y = (q : Int)) := by
          unfold Hid place; rw [if_pos (List.mem_of_getElem? hy), idxOf_at hy hall]
        clear hcell hc hall hy
        go_wp2
        go_ret
        exact ⟨by rw [hp.out]; rfl, rfl⟩
      · have hal2 : Hid (∀ (j : Nat) z, j < q + 1 → ls[j]? = some z → z ≠ x) := by
          intro j z hj hz
          by_cases hjq : j = q
          · subst hjq; rw [hy] at hz; have := Option.some.inj hz; rw [← this]; exact hyx
          · exact hall j z (by omega) hz
        have hne : (y == x) = false := by simpa using hyx
        clear hcell hc hall hy
        go_wp2
        go_roundw
        case rel => exact ⟨q + 1, by omega, by go_num, by trivial, hal2.out⟩
        case measure => simp [intOf]; omega
    · obtain rfl : q = ls.length := by omega
      have hp : Hid (place ls x = -1) := by
        unfold Hid place
        rw [if_neg]
        intro hx
        obtain ⟨j, hj, e⟩ := List.getElem_of_mem hx
        exact hall j x hj (by rw [List.getElem?_eq_getElem hj, e]) rfl
      clear hcell hall
      go_wp2
      go_ret
      exact ⟨by rw [hp.out]; rfl, rfl⟩
end Go.Proofs.Ytlnbkljajocfoaa.TPlace
