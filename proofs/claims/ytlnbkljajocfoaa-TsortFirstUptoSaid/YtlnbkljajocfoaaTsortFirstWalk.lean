/- The walk of TsortFirst. -/
import Derived.Test.YtlnbkljajocfoaaTsortJudgesWalk
import Derived.Test.YtlnbkljajocfoaaTFirstMath
import Derived.Test.YtlnbkljajocfoaaTElems
import Derived.Test.YtlnbkljajocfoaaQuietly
namespace Go.Proofs.Ytlnbkljajocfoaa.TsortFirstWalk
open Go Go.RowKit Topo Strs TPairs TRead TOut TPlace TAwake TBulk TValid TFirstMath TsortJudgesWalk Quietly

theorem first_of {w w' : World} {ps : List (Str × Str)} {e : Ending} (h : SPost w ps e w') : ∃ v2 v3 os cs, e = .returned (.tuple #[v2, v3]) ∧ Strs w' v2 os ∧ Lists w' v3 cs ∧ os.length = (rd ps).1.length ∧ Below w.heap.size w w' ∧
    ∀ other, Valid ps other → ∀ (i : Nat) a b, os.take i = other.take i → os[i]? = some a → other[i]? = some b → a ≠ b → place (rd ps).1 a < place (rd ps).1 b := by
  obtain ⟨v2, v3, K, he, -, hK, hmin, hs, hl, hb⟩ := h
  exact ⟨v2, v3, _, _, he, hs, hl, by rw [List.length_map]; exact hK, hb, fun other hv i a b h1 h2 h3 h4 => first_lt hmin hK hv i a b h1 h2 h3 h4⟩
set_option maxHeartbeats 4000000 in
set_option maxRecDepth 100000 in
theorem walk (v : Value) (ps : List (Str × Str)) (vo : Value) (other : List Str) (w : World) (hv : Prs w v ps) (ho : Strs w vo other) (hu : ptotal ps ≤ 1048576) (hu2 : Crc.total other ≤ 1048576) :
    Calls Try.prog 7 #[v, vo] w fun e w' => e = .returned (.bool true) ∧ Below w.heap.size w w' := by
  have hf := ptotal_facts ps
  have hlen := rd_len ps
  have hs := fun p hp => hf.2 p hp
  have ht := total_le other
  have HA := Lib.hid (fun W => awake_any W)
  have H3 := TValid.valid_any v vo ps other w hv ho (by omega) (fun p hp => by have := hs p hp; omega) (fun s hs => by have := ht s hs; omega)
  have H1 := Lib.hid (fun W (h : Prs W v ps) => TSort.sort_any v ps W h (by omega) (fun p hp => by have := hs p hp; omega))
  have H2 := Lib.hid (fun W (h : Prs W v ps) => TElems.elements_any v ps W h (by omega))
  have HV := Lib.hid hv
  have HOT := Lib.hid ho
  have hnl : (rd ps).1.length ≤ 2097152 := by omega
  obtain ⟨oa, oc, rfl, ⟨hoc, hom⟩, hocell⟩ := ho
  have hom' : oc ≤ 9223372036854775807 := hom
  have HOC := Lib.hid hocell
  clear hv hs ht hlen hocell hf
  by_cases hval : Valid ps other
  · have hd : decide (Valid ps other) = true := decide_eq_true hval
    rw [hd] at H3
    have HH3 := Lib.hid H3
    have HVAL := Lib.hid hval
    have HOL : Hid (other.length = (rd ps).1.length) := hval.1
    clear H3 hd hval
    go_enter Try.func7, Try.ntmps7
    go_wp2_with (first
      | (go_at_call 16
         (with_reducible refine HH3.out.mono ?_)
         rintro e w0 ⟨rfl, hb0⟩)
      | (go_at_call 12
         (with_reducible refine (H1.out _ (HV.out.below hb0)).mono ?_)
         rintro e w1 hp1
         obtain ⟨v2, v3, os, cs, rfl, hs2, hl3, hosl, hb1, hfirst⟩ := first_of hp1
         have HS2 := Lib.hid hs2
         obtain ⟨a2, c2, rfl, ⟨hc2, hm2⟩, hcel2⟩ := hs2
         obtain ⟨a3, c3, rfl, -, -⟩ := hl3
         have hm2' : c2 ≤ 9223372036854775807 := hm2
         have HC2 := Lib.hid hcel2
         have HOSL := Lib.hid hosl
         have HF := Lib.hid hfirst
         have holB : ((os.length : Int) != (other.length : Int)) = false := by rw [hosl, HOL.out]; simp
         clear hp1 hcel2 hosl hfirst)
      | (go_at_call 18
         (with_reducible refine (H2.out _ ((HV.out.below hb0).below hb1)).mono ?_)
         rintro e w2 ⟨v4, rfl, hr4, hb2⟩
         have hs4 := Strs.of_row (Own.Row.of hr4)
         have HS4 := Lib.hid hs4
         obtain ⟨a4, c4, rfl, -, -⟩ := hs4
         clear hr4))
    have hb02 : Below w.heap.size w w2 := (hb0.trans (hb1.mono hb0.size)).trans (hb2.mono (Nat.le_trans hb0.size hb1.size))
    have HB := Lib.hid hb02
    have HB12 := Lib.hid hb2
    have hoo : os.length = other.length := by rw [HOSL.out, HOL.out]
    have HOO := Lib.hid hoo
    clear hoo hb0 hb1 hb2 hb02
    go_loopw [8] (fun i wr => ∃ k n : Nat, i = .int .i64 (k : Nat) ∧ k ≤ os.length ∧ os.take k = other.take k ∧ wr = w2.drewN n) (fun i _ => os.length - (intOf i).toNat)
    case atStart => exact ⟨0, 0, rfl, Nat.zero_le _, rfl, rfl⟩
    case round =>
      obtain ⟨k, n, rfl, hk, htk, rfl⟩ := hrel
      have HTK := Lib.hid htk
      clear htk
      by_cases hlt : k < os.length
      · have hlt2 : k < other.length := by rw [← HOO.out]; exact hlt
        obtain ⟨x, hx⟩ : ∃ x, os[k]? = some x := ⟨_, List.getElem?_eq_getElem hlt⟩
        obtain ⟨y, hy⟩ : ∃ y, other[k]? = some y := ⟨_, List.getElem?_eq_getElem hlt2⟩
        obtain ⟨b2, o2, rfl, hq2⟩ := HC2.out (by intro e; rw [e] at hlt; simp at hlt)
        obtain ⟨b5, o5, rfl, hq5⟩ := HOC.out (by intro e; rw [e] at hlt2; simp at hlt2)
        have q0 := hq2 k x hx
        have q1 := hq5 k y hy
        have k0 := (HB12.out.cell (World.block_lt_of_cell? w1 _ q0)).trans q0
        have k1 := (HB.out.cell (World.block_lt_of_cell? w _ q1)).trans q1
        have hki : (k : Int) < (os.length : Int) := by omega
        have hki2 : (k : Int) < (other.length : Int) := by omega
        have HX := Lib.hid hx
        have HY := Lib.hid hy
        clear hq2 hq5 q0 q1 hx hy
        by_cases hxy : x = y
        · have HXY := Lib.hid hxy
          subst hxy
          go_wp2_with fail
          go_quiet (fail)
          go_wp2
          go_roundw
          case rel => exact ⟨k + 1, _, by go_num, by omega, take_succ HTK.out HX.out HY.out rfl, rfl⟩
          case measure => simp [intOf]; omega
        · have hne : (x == y) = false := by simpa using hxy
          have hpl := HF.out other HVAL.out k x y HTK.out HX.out HY.out hxy
          have HP1 := Lib.hid (fun W h => place_any (.slice a4 (rd ps).1.length c4) (rd ps).1 x W h)
          have HP2 := Lib.hid (fun W h => place_any (.slice a4 (rd ps).1.length c4) (rd ps).1 y W h)
          clear hxy
          generalize place (rd ps).1 x = p1 at hpl HP1
          generalize place (rd ps).1 y = p2 at hpl HP2
          go_wp2_with fail
          go_quiet (fail)
          go_wp2_with fail
          obtain ⟨wz, hwz⟩ : ∃ wz, w2.drewN (n + nq) = wz := ⟨_, rfl⟩
          have hbz : Below w2.heap.size w2 wz := by rw [← hwz]; exact Base.below_drewN (Below.refl _ _) _
          try rw [World.drewN_drewN]
          rw [hwz]
          have HWZ := Lib.hid hwz
          obtain ⟨X, F, hN, hBF, hw0, hF⟩ := worlds wz
          have hl2 := World.block_lt_of_cell? w2 _ k0
          have hl5 := World.block_lt_of_cell? w2 _ k1
          have kf0 : ∀ z, (F z).cell? ⟨b2, o2 + k, none⟩ = some (.string ⟨x.toArray⟩) := fun z => ((hBF z).cell (Nat.lt_of_lt_of_le hl2 hbz.size)).trans ((hbz.cell hl2).trans k0)
          have kf1 : ∀ z, (F z).cell? ⟨b5, o5 + k, none⟩ = some (.string ⟨y.toArray⟩) := fun z => ((hBF z).cell (Nat.lt_of_lt_of_le hl5 hbz.size)).trans ((hbz.cell hl5).trans k1)
          have hst := Lib.hid (fun z => (HS4.out.below hbz).below (hBF z))
          have HBZ := Lib.hid hbz
          clear hwz k0 k1 hl2 hl5 hbz
          refine region (by kernel_rfl) (by kernel_rfl) hw0 hF ?_
          repeat go_big_quiet_step (first
            | (go_at_call 19
               (with_reducible refine (HP1.out _ (hst.out _)).mono ?_)
               rintro e w9 ⟨rfl, rfl⟩
               exact ⟨rfl, _, rfl⟩)
            | (go_at_call 19
               (with_reducible refine (HP2.out _ (hst.out _)).mono ?_)
               rintro e w9 ⟨rfl, rfl⟩
               exact ⟨rfl, _, rfl⟩)
            | (go_at_call 11
               (with_reducible refine (HA.out _).mono ?_)
               rintro e w9 ⟨rfl, hb9⟩
               exact ⟨rfl, hF _ _ hb9⟩))
          refine wpQuiet_nil ?_
          rintro _ ⟨x1, rfl⟩
          go_wp2
          go_ret
          have h1 : Below w.heap.size w wz := by rw [← HWZ.out]; exact Base.below_drewN HB.out _
          exact ⟨rfl, h1.trans ((hBF x1).mono h1.size)⟩
      · obtain rfl : k = os.length := by omega
        clear hlt hk
        go_wp2_with (go_at_call 11
                     (with_reducible refine (HA.out _).mono ?_)
                     rintro e w9 ⟨rfl, hb9⟩)
        go_ret
        exact ⟨rfl, (Base.below_drewN HB.out n).trans (hb9.mono HB.out.size)⟩
  · have hd : decide (Valid ps other) = false := decide_eq_false hval
    rw [hd] at H3
    have HH3 := Lib.hid H3
    clear H3 hd hval
    go_enter Try.func7, Try.ntmps7
    go_wp2_with (first
      | (go_at_call 16
         (with_reducible refine HH3.out.mono ?_)
         rintro e w0 ⟨rfl, hb0⟩)
      | (go_at_call 11
         (with_reducible refine (HA.out _).mono ?_)
         rintro e w5 ⟨rfl, hb5⟩))
    go_ret
    exact ⟨rfl, hb0.trans (hb5.mono hb0.size)⟩
end Go.Proofs.Ytlnbkljajocfoaa.TsortFirstWalk
