/- The law's ring: of a list of different elements, each one and the next a pair, at least two, it says true. -/
import Derived.Test.YtlnbkljajocfoaaTRefValid
import Derived.Test.YtlnbkljajocfoaaTPaired
namespace Go.Proofs.Ytlnbkljajocfoaa.TRing
open Go Go.RowKit Strs TPairs TPlace TPaired TRefMath

theorem place_at {c : List Str} (h : c.Nodup) {i : Nat} {x : Str} (hi : c[i]? = some x) : place c x = (i : Int) := by
  unfold place
  rw [if_pos (List.mem_of_getElem? hi), idxOf_at hi fun j y hj hy e => by
    have := nodup_get h hi (by rw [← e]; exact hy)
    omega]
theorem paired_q (v : Value) (ps : List (Str × Str)) (x y : Str) (w : World) (n m : Nat) (h : Prs w v ps) :
    Calls Try.prog 32 #[v, .string ⟨x.toArray⟩, .string ⟨y.toArray⟩] (w.drewN (n + m)) fun e w'' => e = .returned (.bool (decide ((x, y) ∈ ps))) ∧ ∃ k, w'' = w.drewN (n + k) :=
  (paired_any v ps x y (w.drewN (n + m)) (h.below (Base.below_drewN (Below.refl _ _) _))).mono fun _ _ ⟨he, hm⟩ => ⟨he, m, hm.symm⟩
set_option maxHeartbeats 2000000 in
set_option maxRecDepth 100000 in
theorem ring_any (v0 vc : Value) (ps : List (Str × Str)) (c : List Str) (w : World) (hv : Prs w v0 ps) (hc : Strs w vc c) (hnd : c.Nodup) (h2 : 2 ≤ c.length) (hcl : c.length ≤ 67108864) (hp : ∀ i a b, c[i]? = some a → c[(i + 1) % c.length]? = some b → (a, b) ∈ ps) :
    Calls Try.prog 20 #[v0, vc] w fun e w' => e = .returned (.bool true) ∧ ∃ n, w' = w.drewN n := by
  have HV := Lib.hid hv
  have HC := Lib.hid hc
  obtain ⟨ca, cc, rfl, ⟨hcc, hcm⟩, hcell⟩ := hc
  have hcm' : cc ≤ 9223372036854775807 := hcm
  obtain ⟨cb, coff, rfl, hcel⟩ := hcell (by intro e; rw [e] at h2; simp at h2)
  have HCL := Lib.hid hcel
  have HP := Lib.hid hp
  have HND := Lib.hid hnd
  clear hcell hcel hp hnd
  go_enter Try.func20, Try.ntmps20
  go_wp2
  go_loopw [5] (fun i wr => ∃ k n : Nat, k ≤ c.length ∧ i = .int .i64 k ∧ wr = w.drewN n) (fun i _ => c.length - (intOf i).toNat)
  case atStart => exact ⟨0, 0, Nat.zero_le _, rfl, rfl⟩
  case round =>
    obtain ⟨k, n, hk, rfl, rfl⟩ := hrel
    by_cases hlt : k < c.length
    · have hml : (k + 1) % c.length < c.length := Nat.mod_lt _ (by omega)
      obtain ⟨x, hx⟩ : ∃ x, c[k]? = some x := ⟨_, List.getElem?_eq_getElem hlt⟩
      obtain ⟨y, hy⟩ : ∃ y, c[(k + 1) % c.length]? = some y := ⟨_, List.getElem?_eq_getElem hml⟩
      have k0 := HCL.out k x hx
      have k1 := HCL.out _ y hy
      have hpx := place_at HND.out hx
      have hpr := HP.out k x y hx hy
      have HQ1 := fun m => TRefValid.place_q _ c x w n m HC.out
      have HQ2 := fun m => paired_q v0 ps x y w n m HV.out
      rw [hpx] at HQ1
      have hd : decide ((x, y) ∈ ps) = true := by simpa using hpr
      rw [hd] at HQ2
      have HH1 := Lib.hid HQ1
      have HH2 := Lib.hid HQ2
      have hmod : Int.tmod ((k : Int) + 1) (c.length : Int) = (((k + 1) % c.length : Nat) : Int) := by
        rw [Int.tmod_eq_emod_of_nonneg (by omega)]
        simp
      have hki : (k : Int) < (c.length : Int) := by omega
      have hmi : (((k + 1) % c.length : Nat) : Int) < (c.length : Int) := by omega
      generalize hmm : (k + 1) % c.length = mm at *
      have hnz : (c.length : Int) ≠ 0 := by omega
      have hm0 : (0 : Int) ≤ (mm : Int) := by omega
      clear HQ1 HQ2 hx hy hpx hpr hd hmm
      go_wp2_with fail
      go_quiet (first | (go_at_call 19; with_reducible exact HH1.out _) | (go_at_call 32; with_reducible exact HH2.out _))
      go_wp2
      go_roundw
      case rel => exact ⟨k + 1, _, by omega, by go_num, rfl⟩
      case measure => simp [intOf]; omega
    · obtain rfl : k = c.length := by omega
      have h2i : (2 : Int) ≤ (c.length : Int) := by omega
      go_wp2
      go_ret
      exact ⟨rfl, n, rfl⟩
end Go.Proofs.Ytlnbkljajocfoaa.TRing
