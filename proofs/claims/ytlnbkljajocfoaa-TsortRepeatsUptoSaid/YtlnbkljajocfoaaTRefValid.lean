/- The reference's Valid. -/
import Derived.Test.YtlnbkljajocfoaaTValid
import Derived.Test.YtlnbkljajocfoaaTElems
import Derived.BigQuiet
import Derived.Deep.QuietTactic
namespace Go.Proofs.Ytlnbkljajocfoaa.TRefValid
open Go Go.RowKit Topo Strs TWords TPairs TGraph TRead TPlace TElems TRefMath TOut TValid

theorem place_q (v : Value) (ls : List Str) (x : Str) (w : World) (n m : Nat) (h : Strs w v ls) :
    Calls Try.prog 19 #[v, .string ⟨x.toArray⟩] (w.drewN (n + m)) fun e w'' => e = .returned (.int .i64 (place ls x)) ∧ ∃ k, w'' = w.drewN (n + k) :=
  (place_any v ls x (w.drewN (n + m)) (h.drewN (n + m))).mono fun _ _ ⟨he, hm⟩ => ⟨he, m, hm.symm⟩
/-- the reference's words -/
def RValid (ps : List (Str × Str)) (order : List Str) : Prop :=
  (rd ps).1.length = order.length ∧ (∀ x ∈ (rd ps).1, x ∈ order) ∧ ∀ p ∈ ps, p.1 ≠ p.2 → place order p.1 ≤ place order p.2
set_option maxHeartbeats 4000000 in
set_option maxRecDepth 100000 in
theorem valid_any (v0 vo : Value) (ps : List (Str × Str)) (order : List Str) (w : World) (hv : Prs w v0 ps) (ho : Strs w vo order) (hn : ps.length ≤ 16777216) (b : Bool) (hb0 : b = true ↔ RValid ps order) :
    Calls Try.prog 17 #[v0, vo] w fun e w' => e = .returned (.bool b) ∧ Below w.heap.size w w' := by
  have hlen := rd_len ps
  have HO := Lib.hid ho
  have HV := Lib.hid hv
  obtain ⟨oa, oc, rfl, ⟨hoc, hom⟩, hocell⟩ := ho
  have hom' : oc ≤ 9223372036854775807 := hom
  obtain ⟨pa, pc, rfl, ⟨hpc, hpm⟩, hpcell⟩ := hv
  have hpm' : pc ≤ 9223372036854775807 := hpm
  have HE := Lib.hid (elements_any _ ps w HV.out hn)
  have HB0 := Lib.hid hb0
  have HPC := Lib.hid hpcell
  clear hocell hb0 hpcell
  by_cases hl : (rd ps).1.length = order.length
  · have hlB : (((rd ps).1.length : Int) != order.length) = false := by simp [hl]
    have HLEN := Lib.hid hl
    clear hl
    go_enter Try.func17, Try.ntmps17
    go_wp2_with (go_at_call 18
                 (with_reducible refine HE.out.mono ?_)
                 rintro e w1 ⟨v1, rfl, hr1, hb1⟩
                 have hs1 := Strs.of_row (Own.Row.of hr1)
                 obtain ⟨a1, c1, rfl, ⟨hc1, hm1⟩, hcell1⟩ := hs1
                 have hm1' : c1 ≤ 9223372036854775807 := hm1
                 have HO1 := Lib.hid (HO.out.below hb1)
                 clear hr1)
    have HC1 := Lib.hid hcell1
    clear hcell1
    obtain ⟨ls, hls⟩ : ∃ ls, (rd ps).1 = ls := ⟨_, rfl⟩
    have HLS := Lib.hid hls
    rw [hls] at hlen hc1 hlB
    have HC2 := HC1.out
    rw [hls] at HC2
    have HC3 := Lib.hid HC2
    clear HC1 HC2 HE
    rw [hls]
    clear hls
    go_loopw [6] (fun i wr => ∃ k : Nat, i = .int .i64 (k : Nat) ∧ k ≤ ls.length ∧ (∀ x ∈ ls.take k, x ∈ order) ∧ wr = w1) (fun i _ => ls.length - (intOf i).toNat)
    case atStart => exact ⟨0, rfl, Nat.zero_le _, (fun x hx => by simp at hx), rfl⟩
    case round =>
      obtain ⟨k, rfl, hk, hall, rfl⟩ := hrel
      have HALL := Lib.hid hall
      clear hall
      by_cases hlt : k < ls.length
      · obtain ⟨x, hx⟩ : ∃ x, ls[k]? = some x := ⟨_, List.getElem?_eq_getElem hlt⟩
        obtain ⟨b1, o1, rfl, hq1⟩ := HC3.out (by intro e; rw [e] at hlt; simp at hlt)
        have k0 := hq1 k x hx
        have hki : (k : Int) < (ls.length : Int) := by omega
        have hP := place_any _ order x _ HO1.out
        have HX := Lib.hid hx
        by_cases hin : x ∈ order
        · have hpl : ¬ place order x < 0 := by unfold place; rw [if_pos hin]; omega
          have HIN := Lib.hid hin
          generalize place order x = pl at *
          have HP := Lib.hid hP
          clear hq1 hP hx hin
          go_wp2_with (go_at_call 19
                       (with_reducible refine HP.out.mono ?_)
                       rintro e w3 ⟨rfl, rfl⟩)
          go_roundw
          case rel =>
            refine ⟨k + 1, by go_num, by omega, fun x' hx' => ?_, by trivial⟩
            rw [List.take_add_one, HX.out] at hx'
            rcases List.mem_append.1 hx' with h | h
            · exact HALL.out x' h
            · simp at h
              rw [h]; exact HIN.out
          case measure => simp [intOf]; omega
        · have hpl : place order x = -1 := by unfold place; rw [if_neg hin]
          rw [hpl] at hP
          have hbf : b = false := by
            cases hb : b with
            | false => rfl
            | true => exact absurd ((HB0.out.1 hb).2.1 x (by rw [HLS.out]; exact List.mem_of_getElem? hx)) hin
          subst hbf
          have HP := Lib.hid hP
          clear hq1 hP hx hin hpl
          go_wp2_with (go_at_call 19
                       (with_reducible refine HP.out.mono ?_)
                       rintro e w3 ⟨rfl, rfl⟩)
          go_ret
          exact ⟨rfl, hb1⟩
      · obtain rfl : k = ls.length := by omega
        rename World => w1
        have hall2 : Hid (∀ x ∈ ls, x ∈ order) := by
          have := HALL.out
          rw [List.take_length] at this
          exact this
        clear HALL hlt hk
        go_wp2_with fail
        go_loopw [7] (fun i wr => ∃ k n : Nat, i = .int .i64 (k : Nat) ∧ k ≤ ps.length ∧ (∀ p ∈ ps.take k, p.1 ≠ p.2 → place order p.1 ≤ place order p.2) ∧ wr = w1.drewN n) (fun i _ => ps.length - (intOf i).toNat)
        case atStart => exact ⟨0, 0, rfl, Nat.zero_le _, (fun p hp => by simp at hp), rfl⟩
        case round =>
          obtain ⟨k, n, rfl, hk, hall, rfl⟩ := hrel
          have HALL := Lib.hid hall
          clear hall
          by_cases hlt : k < ps.length
          · obtain ⟨p, hp⟩ : ∃ p, ps[k]? = some p := ⟨_, List.getElem?_eq_getElem hlt⟩
            obtain ⟨b2, o2, rfl, hq2⟩ := HPC.out (by intro e; rw [e] at hlt; simp at hlt)
            obtain ⟨x0, x1⟩ := hq2 k p hp
            rw [Nat.mul_comm] at x0 x1
            have k0 := (hb1.cell (World.block_lt_of_cell? w _ x0)).trans x0
            have k1 := (hb1.cell (World.block_lt_of_cell? w _ x1)).trans x1
            have hki : (k : Int) < (ps.length : Int) := by omega
            have hstep : ∀ q ∈ ps.take (k + 1), q ∈ ps.take k ∨ q = p := fun q hq => by
              rw [List.take_add_one, hp] at hq
              rcases List.mem_append.1 hq with h | h
              · exact .inl h
              · simp at h
                exact .inr h
            have hpm := List.mem_of_getElem? hp
            have HSTEP := Lib.hid hstep
            have HPM := Lib.hid hpm
            clear hq2 x0 x1 hp hstep hpm
            obtain ⟨x, y⟩ := p
            simp only at k0 k1
            cases hxy : (x == y) with
            | true =>
              have hxe : x = y := by simpa using hxy
              subst hxe
              clear hxy
              go_wp2_with fail
              go_quiet (fail)
              go_wp2
              go_roundw
              case rel =>
                refine ⟨k + 1, _, by go_num, by omega, fun q hq hne => ?_, rfl⟩
                rcases HSTEP.out q hq with h | h
                · exact HALL.out q h hne
                · rw [h] at hne; exact absurd rfl hne
              case measure => simp [intOf]; omega
            | false =>
              have hxe : x ≠ y := by simpa using hxy
              have HXE := Lib.hid hxe
              have HQ1 := Lib.hid (fun m => place_q _ order x w1 n m HO1.out)
              have HQ2 := Lib.hid (fun m => place_q _ order y w1 n m HO1.out)
              clear hxe
              by_cases hgt : place order y < place order x
              · have hbf : b = false := by
                  cases hb : b with
                  | false => rfl
                  | true => exact absurd hgt (Int.not_lt.2 ((HB0.out.1 hb).2.2 (x, y) HPM.out HXE.out))
                subst hbf
                clear HALL
                generalize place order x = px at *
                generalize place order y = py at *
                go_wp2_with fail
                go_quiet (first | (go_at_call 19; with_reducible exact HQ1.out _) | (go_at_call 19; with_reducible exact HQ2.out _))
                go_wp2
                go_ret
                exact ⟨rfl, Base.below_drewN (Base.below_drewN hb1 n) nq⟩
              · have HGT := Lib.hid hgt
                generalize hpx : place order x = px at hgt HQ1
                generalize hpy : place order y = py at hgt HQ2
                clear hpx hpy
                go_wp2_with fail
                go_quiet (first | (go_at_call 19; with_reducible exact HQ1.out _) | (go_at_call 19; with_reducible exact HQ2.out _))
                go_wp2
                go_roundw
                case rel =>
                  refine ⟨k + 1, _, by go_num, by omega, fun q hq hne => ?_, rfl⟩
                  rcases HSTEP.out q hq with h | h
                  · exact HALL.out q h hne
                  · rw [h]; exact HGT.out
                case measure => simp [intOf]; omega
          · obtain rfl : k = ps.length := by omega
            have hbt : b = true := by
              rw [HB0.out]
              have h3 := HALL.out
              rw [List.take_length] at h3
              exact ⟨HLEN.out, by rw [HLS.out]; exact hall2.out, h3⟩
            subst hbt
            go_wp2
            go_ret
            exact ⟨rfl, Base.below_drewN hb1 _⟩
  · have hlB : (((rd ps).1.length : Int) != order.length) = true := by simp; omega
    have hbf : b = false := by
      cases hb : b with
      | false => rfl
      | true => exact absurd (HB0.out.1 hb).1 hl
    subst hbf
    clear hl
    go_enter Try.func17, Try.ntmps17
    go_wp2_with (go_at_call 18
                 (with_reducible refine HE.out.mono ?_)
                 rintro e w1 ⟨v1, rfl, hr1, hb1⟩
                 have hs1 := Strs.of_row (Own.Row.of hr1)
                 obtain ⟨a1, c1, rfl, ⟨hc1, hm1⟩, hcell1⟩ := hs1
                 have hm1' : c1 ≤ 9223372036854775807 := hm1
                 clear hr1)
    go_ret
    exact ⟨rfl, hb1⟩
end Go.Proofs.Ytlnbkljajocfoaa.TRefValid
