/- slices.Index, Min, Reverse and Clone on numbers that lie in a row; the row is not empty. -/
import Derived.Test.YtlnbkljajocfoaaTBefore
namespace Go.Proofs.Ytlnbkljajocfoaa.TSlices
open Go Go.RowKit Topo TWords

/-- numbers that lie in a row and may be written -/
def RowAt (w : World) (b off : Nat) (xs : List Nat) : Prop := ∀ j x, xs[j]? = some x → w.cell? ⟨b, off + j, none⟩ = some (.int .i64 (x : Nat)) ∧ w.frozen? ⟨b, off + j, none⟩ = false

theorem idxOf_hit {xs : List Nat} {x q : Nat} (h : xs[q]? = some x) (hb : ∀ j y, j < q → xs[j]? = some y → y ≠ x) : xs.idxOf x = q := by
  induction xs generalizing q with
  | nil => simp at h
  | cons a l ih =>
    cases q with
    | zero => simp at h; subst h; simp
    | succ q =>
      have h0 := hb 0 a (by omega) rfl
      have h0' : (a == x) = false := by simpa using h0
      rw [List.idxOf_cons, h0']
      simp only [cond_false]
      rw [ih (by simpa using h) (fun j y hj hy => hb (j + 1) y (by omega) (by simpa using hy))]
set_option maxHeartbeats 1000000 in
set_option maxRecDepth 100000 in
theorem index_any (b off c : Nat) (xs : List Nat) (x : Nat) (w : World) (h : RowAt w b off xs) (hx : x ∈ xs) (hc : xs.length ≤ c ∧ c ≤ maxLen) :
    Calls Try.prog 39 #[.slice (some ⟨b, off, none⟩) xs.length c, .int .i64 x] w fun e w' => e = .returned (.int .i64 (xs.idxOf x : Nat)) ∧ w = w' := by
  have hc2 : c ≤ 9223372036854775807 := hc.2
  have hc1 := hc.1
  go_enter Try.func39, Try.ntmps39
  go_wp2
  go_loopw [8] (fun i wr => ∃ q : Nat, q ≤ xs.length ∧ i = .int .i64 q ∧ wr = w ∧ ∀ j y, j < q → xs[j]? = some y → y ≠ x) (fun i _ => xs.length - (intOf i).toNat)
  case atStart => exact ⟨0, Nat.zero_le _, rfl, rfl, fun j y hj => by omega⟩
  case round =>
    obtain ⟨q, hq, rfl, rfl, hall⟩ := hrel
    by_cases hlt : q < xs.length
    · obtain ⟨y, hy⟩ : ∃ y, xs[q]? = some y := ⟨_, List.getElem?_eq_getElem hlt⟩
      have k0 := (h q y hy).1
      have hql : (q : Int) < (xs.length : Int) := by omega
      by_cases hyx : x = y
      · subst hyx
        have hp := Lib.hid (idxOf_hit hy hall)
        clear h hall hy
        go_wp2
        go_ret
        exact ⟨by rw [hp.out]; rfl, rfl⟩
      · have hne : ((x : Int) == (y : Int)) = false := by simp; omega
        have hal2 : Hid (∀ j z, j < q + 1 → xs[j]? = some z → z ≠ x) := by
          intro j z hj hz
          by_cases hjq : j = q
          · subst hjq; rw [hy] at hz; have := Option.some.inj hz; omega
          · exact hall j z (by omega) hz
        clear h hall hy
        go_wp2
        go_roundw
        case rel => exact ⟨q + 1, by omega, by go_num, by trivial, hal2.out⟩
        case measure => simp [intOf]; omega
    · exfalso
      obtain ⟨j, hj, e⟩ := List.getElem_of_mem hx
      exact hall j x (by omega) (by rw [List.getElem?_eq_getElem hj, e]) rfl
theorem min_snoc (x : Nat) (l : List Nat) (y : Nat) : (l ++ [y]).foldl min x = min (l.foldl min x) y := by simp
set_option maxHeartbeats 1000000 in
set_option maxRecDepth 100000 in
theorem min_any (b off c : Nat) (x : Nat) (l : List Nat) (w : World) (h : RowAt w b off (x :: l)) (hc : (x :: l).length ≤ c ∧ c ≤ maxLen) :
    Calls Try.prog 40 #[.slice (some ⟨b, off, none⟩) (x :: l).length c] w fun e w' => e = .returned (.int .i64 (minOf (x :: l) : Nat)) ∧ w = w' := by
  have hc2 : c ≤ 9223372036854775807 := hc.2
  have hc1 := hc.1
  obtain ⟨n, hn⟩ : ∃ n, n = (x :: l).length := ⟨_, rfl⟩
  have hn0 : 1 ≤ n := by rw [hn]; simp
  have k0 := (h 0 x rfl).1
  rw [Nat.add_zero] at k0
  rw [← hn] at hc1 ⊢
  have hn1 : (0 : Int) < (n : Int) := by omega
  have hn2 : decide ((n : Int) < 1) = false := by simp; omega
  go_enter Try.func40, Try.ntmps40
  go_wp2
  go_loopw [3, 4] (fun m i wr => ∃ q : Nat, 1 ≤ q ∧ q ≤ n ∧ i = .int .i64 q ∧ wr = w ∧ m = .int .i64 ((l.take (q - 1)).foldl min x : Nat)) (fun _ i _ => n - (intOf i).toNat)
  case atStart => exact ⟨1, Nat.le_refl _, hn0, rfl, rfl, rfl⟩
  case round =>
    obtain ⟨q, hq1, hq, rfl, rfl, rfl⟩ := hrel
    by_cases hlt : q < n
    · have hlq : q - 1 < l.length := by simp at hn; omega
      obtain ⟨y, hy⟩ : ∃ y, l[q - 1]? = some y := ⟨_, List.getElem?_eq_getElem hlq⟩
      have k1 := (h q y (by rw [show q = q - 1 + 1 from by omega, List.getElem?_cons_succ]; exact hy)).1
      have hst : Hid ((l.take (q + 1 - 1)).foldl min x = min ((l.take (q - 1)).foldl min x) y) := by
        rw [Hid, show q + 1 - 1 = q - 1 + 1 from by omega, List.take_add_one, hy]
        exact min_snoc _ _ _
      generalize (l.take (q - 1)).foldl min x = m at *
      have hql : (q : Int) < (n : Int) := by omega
      clear h hy hn
      go_wp2
      go_roundw
      case rel => exact ⟨q + 1, by omega, by omega, by go_num, by trivial, by rw [hst.out]; congr 1; omega⟩
      case measure => simp [intOf]; omega
    · obtain rfl : q = n := by omega
      have he : Hid ((l.take (q - 1)).foldl min x = minOf (x :: l)) := by
        rw [Hid, List.take_of_length_le (by simp at hn; omega)]; rfl
      clear hn
      go_wp2
      go_ret
      exact ⟨by rw [← he.out]; rfl, rfl⟩
end Go.Proofs.Ytlnbkljajocfoaa.TSlices
