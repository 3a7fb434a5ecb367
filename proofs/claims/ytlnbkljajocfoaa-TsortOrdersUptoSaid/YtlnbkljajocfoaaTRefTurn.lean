/- The reference's turned: the elements of a way from an index on, backwards, from the one that was named first. -/
import Derived.Test.YtlnbkljajocfoaaTRefMath
import Derived.Deep.QuietTactic
import Derived.BigQuiet
namespace Go.Proofs.Ytlnbkljajocfoaa.TRefTurn
open Go Go.RowKit Strs TWords TPairs TGraph TRead TPlace TElems TParse TRefMath TCycle

theorem place_q (v : Value) (ls : List Str) (x : Str) (w : World) (n m : Nat) (h : Strs w v ls) :
    Calls Try.prog 19 #[v, .string ⟨x.toArray⟩] (w.drewN (n + m)) fun e w'' => e = .returned (.int .i64 (place ls x)) ∧ ∃ k, w'' = w.drewN (n + k) :=
  (place_any v ls x (w.drewN (n + m)) (h.drewN (n + m))).mono fun _ _ ⟨he, hm⟩ => ⟨he, m, hm.symm⟩
theorem drop_step (way : List Str) (k : Nat) (y : Str) (h : way[k]? = some y) : (way.drop k).reverse = (way.drop (k + 1)).reverse ++ [y] := by
  have hk := (List.getElem?_eq_some_iff.1 h)
  obtain ⟨h1, h2⟩ := hk
  rw [List.drop_eq_getElem_cons h1, h2, List.reverse_cons]
set_option maxHeartbeats 2000000 in
set_option maxRecDepth 100000 in
theorem turned_any (v0 vn : Value) (way named : List Str) (d : Nat) (w : World) (hv : Strs w v0 way) (hnm : Strs w vn named) (hd : d < way.length) (hn : way.length ≤ 67108864) :
    Calls Try.prog 42 #[v0, .int .i64 (d : Nat), vn] w fun e w' => ∃ v', e = .returned v' ∧ w'.ownsRow w.heap.size 9 1 v' (way.length - d) (cellsOf (turnedS named (way.drop d))) ∧ Below w.heap.size w w' := by
  obtain ⟨i0, hi, hz0, hz1, hz2⟩ := info_parts str_info
  obtain ⟨a0, c0, rfl, ⟨hl, hm⟩, hcell⟩ := hv
  obtain ⟨b0, off, rfl, hc⟩ := hcell (by intro e; rw [e] at hd; simp at hd)
  have hm' : c0 ≤ 9223372036854775807 := hm
  go_enter Try.func42, Try.ntmps42
  go_wp2
  go_loopw [7, 8] (fun bv i wr => ∃ (k : Nat) (z : Int), d ≤ k ∧ k ≤ way.length ∧ i = .int .i64 z ∧ z = (k : Int) - 1 ∧ wr.ownsRow w.heap.size 9 1 bv (way.length - k) (cellsOf (way.drop k).reverse) ∧ Below w.heap.size w wr) (fun _ i _ => (intOf i + 1 - (d : Int)).toNat)
  case atStart => exact ⟨way.length, _, by omega, Nat.le_refl _, rfl, rfl, ⟨by simp [cellsOf], .inl ⟨rfl, by simp⟩⟩, Below.refl _ _⟩
  case round =>
    obtain ⟨k, z, hdk, hk, rfl, hz, hrow, hb⟩ := hrel
    by_cases hlt : d < k
    · obtain ⟨k', rfl⟩ : ∃ k', k = k' + 1 := ⟨k - 1, by omega⟩
      obtain rfl : z = (k' : Int) := by omega
      obtain ⟨y, hy⟩ : ∃ y, way[k']? = some y := ⟨_, List.getElem?_eq_getElem (by omega)⟩
      have q0 := hc k' y hy
      have c0' := (hb.cell (World.block_lt_of_cell? w _ q0)).trans q0
      have hki : (k' : Int) < (way.length : Int) := by omega
      have hge : (d : Int) ≤ (k' : Int) := by omega
      have hbs := hb.size
      have hblk := ownsRow_block hrow
      obtain ⟨n, hn2⟩ : ∃ n, way.length - (k' + 1) = n := ⟨_, rfl⟩
      rw [hn2] at hrow
      have hnle : n ≤ 67108864 := by omega
      have hcs : Hid (cellsOf (way.drop k').reverse = cellsOf (way.drop (k' + 1)).reverse ++ [.string ⟨y.toArray⟩]) := by rw [Hid, drop_step way k' y hy, cellsOf_append]; rfl
      generalize cellsOf (way.drop (k' + 1)).reverse = cs at *
      have HN2 := Lib.hid hn2
      clear hcell hc hy q0 hz hn2
      go_wp2_with (at_builtin
                   refine wpList_append_lies _ rfl _ _ _ rfl w.heap.size 9 i0 _ 1 16 Try.underlying30 hi hz0 hz1 hz2 rfl (by omega) _ n cs rfl (hrow.alloc _) ⟨wr.heap.size, 0, none⟩ 1 1 [.string ⟨y.toArray⟩] rfl rfl (World.news_of_block (cs := #[.string ⟨y.toArray⟩]) (t := 9) (fr := (0, 0)) (heap_alloc_new wr _)) (by simp [Value.oneCell']) (by omega) (by unfold maxLen; omega) (by omega) (by simp; omega) (wr.heap.size + 1) (by simp) ?_
                   intro gg cap w2 hown2 hgrow hat hlt2)
      go_roundw
      case rel =>
        have := HN2.out
        refine ⟨k', (k' : Int) - 1, by omega, by omega, by go_num, rfl, ?_, (hb.alloc hbs _).grown hgrow (by simp; omega) (fun q hq => (hblk q hq).1)⟩
        rw [hcs.out, show way.length - k' = n + 1 from by omega]
        exact hown2
      case measure => simp [intOf]; omega
    · obtain rfl : k = d := by omega
      have hlt2 : ¬ (k : Int) ≤ z := by omega
      have hzr : -1 ≤ z ∧ z < 9223372036854775807 := by omega
      obtain ⟨r, hr⟩ : ∃ r, (way.drop k).reverse = r := ⟨_, rfl⟩
      have hrl : r.length = way.length - k := by rw [← hr]; simp
      rw [hr, ← hrl] at hrow
      have hst := Strs.of_row (Own.Row.of hrow)
      have hnm2 := hnm.below hb
      obtain ⟨ra, rc, rfl, ⟨hrc, hrm⟩, hrcell⟩ := hst
      obtain ⟨rb, roff, rfl, hrcel⟩ := hrcell (by intro e; rw [e] at hrl; simp at hrl; omega)
      have hrm' : rc ≤ 9223372036854775807 := hrm
      have hrn : 1 ≤ r.length ∧ r.length ≤ 67108864 := by omega
      have HRL := Lib.hid hrl
      have hb1 : Below w.heap.size w wr := hb
      rename World => w1
      have HQ := Lib.hid hnm2
      have hrb : rb < w1.heap.size := by
        obtain ⟨y, hy⟩ : ∃ y, r[0]? = some y := ⟨_, List.getElem?_eq_getElem (by omega)⟩
        exact World.block_lt_of_cell? w1 _ (hrcel 0 y hy)
      clear hrcell hcell hc hrow hnm hnm2 hrl
      go_wp2
      go_loopw [9, 10] (fun f i wr => ∃ k : Nat, i = .int .i64 ((k : Int) + 1) ∧ k + 1 ≤ r.length ∧ f = .int .i64 (fmin (place named) r k : Nat) ∧ ∃ n, wr = w1.drewN n) (fun _ i _ => r.length - (intOf i).toNat)
      case atStart => exact ⟨0, rfl, by omega, rfl, 0, rfl⟩
      case round =>
        obtain ⟨q, rfl, hq, rfl, n, rfl⟩ := hrel
        by_cases hqn : q + 1 < r.length
        · have hf := (fmin_spec (place named) r q).1
          obtain ⟨y1, hy1⟩ : ∃ y, r[q + 1]? = some y := ⟨_, List.getElem?_eq_getElem hqn⟩
          obtain ⟨y2, hy2⟩ : ∃ y, r[fmin (place named) r q]? = some y := ⟨_, List.getElem?_eq_getElem (by omega)⟩
          have hstep : Hid (fmin (place named) r (q + 1) = if place named y1 < place named y2 then q + 1 else fmin (place named) r q) := by
            show (if place named (r.getD (q + 1) []) < place named (r.getD (fmin (place named) r q) []) then q + 1 else fmin (place named) r q) = _
            rw [List.getD_eq_getElem?_getD, List.getD_eq_getElem?_getD, hy1, hy2]
            rfl
          have k1 := hrcel (q + 1) y1 hy1
          have k2 := hrcel _ y2 hy2
          have hq1 : (q : Int) + 1 < (r.length : Int) := by omega
          have HQ1 := Lib.hid (fun m => place_q vn named y1 w1 n m HQ.out)
          have HQ2 := Lib.hid (fun m => place_q vn named y2 w1 n m HQ.out)
          generalize fmin (place named) r q = fm at *
          have hfm1 : (fm : Int) < (r.length : Int) := by omega
          have hq0 : (0 : Int) ≤ (q : Int) + 1 := by omega
          have HRC := Lib.hid hrcel
          clear hrcel hy1 hy2
          by_cases hlt : place named y1 < place named y2
          · rw [if_pos hlt] at hstep
            generalize place named y1 = p1 at *
            generalize place named y2 = p2 at *
            go_wp2_with fail
            go_quiet (first | (go_at_call 19; with_reducible exact HQ1.out _) | (go_at_call 19; with_reducible exact HQ2.out _))
            go_wp2
            go_roundw
            case rel => exact ⟨q + 1, by go_num, by omega, by rw [hstep.out]; go_num, _, rfl⟩
            case measure => simp [intOf]; omega
          · rw [if_neg hlt] at hstep
            generalize place named y1 = p1 at *
            generalize place named y2 = p2 at *
            go_wp2_with fail
            go_quiet (first | (go_at_call 19; with_reducible exact HQ1.out _) | (go_at_call 19; with_reducible exact HQ2.out _))
            go_wp2
            go_roundw
            case rel => exact ⟨q + 1, by go_num, by omega, by rw [hstep.out], _, rfl⟩
            case measure => simp [intOf]; omega
        · obtain ⟨f, hfe⟩ : ∃ f, fmin (place named) r q = f := ⟨_, rfl⟩
          have hf : f ≤ q := by rw [← hfe]; exact (fmin_spec (place named) r q).1
          have hql : q + 1 = r.length := by omega
          rw [hfe]
          have HFE := Lib.hid hfe
          clear hfe HQ
          go_wp2
          go_loopw [11, 12] (fun ov i wr => ∃ k : Nat, i = .int .i64 (k : Nat) ∧ k ≤ r.length ∧ wr.ownsRow w1.heap.size 9 1 ov k (cellsOf ((List.range k).map fun i => r.getD ((f + i) % r.length) [])) ∧ Below w1.heap.size w1 wr) (fun _ i _ => r.length - (intOf i).toNat)
          case atStart => exact ⟨0, rfl, Nat.zero_le _, ⟨rfl, .inl ⟨rfl, rfl⟩⟩, Base.below_drewN (Below.refl _ _) _⟩
          case round =>
            obtain ⟨t, rfl, hk, hrow, hb⟩ := hrel
            by_cases hkr : t < r.length
            · obtain ⟨y, hy⟩ : ∃ y, r[(f + t) % r.length]? = some y := ⟨_, List.getElem?_eq_getElem (Nat.mod_lt _ (by omega))⟩
              have hml : (f + t) % r.length < r.length := Nat.mod_lt _ (by omega)
              have hstep : Hid (cellsOf ((List.range (t + 1)).map fun i => r.getD ((f + i) % r.length) []) = cellsOf ((List.range t).map fun i => r.getD ((f + i) % r.length) []) ++ [.string ⟨y.toArray⟩]) := by
                rw [Hid, List.range_succ, List.map_append, cellsOf_append]
                congr 1
                show cellsOf [r.getD ((f + t) % r.length) []] = _
                rw [List.getD_eq_getElem?_getD, hy]
                rfl
              have k1 := (hb.cell (p := ⟨rb, roff + (f + t) % r.length, none⟩) hrb).trans (hrcel _ y hy)
              have hmod : Int.tmod ((f : Int) + (t : Int)) (r.length : Int) = (((f + t) % r.length : Nat) : Int) := by
                rw [Int.tmod_eq_emod_of_nonneg (by omega)]
                simp
              have hki : (t : Int) < (r.length : Int) := by omega
              have hmi : (((f + t) % r.length : Nat) : Int) < (r.length : Int) := by omega
              generalize hmm : (f + t) % r.length = mm at *
              have hnz : (r.length : Int) ≠ 0 := by omega
              have hbs := hb.size
              have hblk := ownsRow_block hrow
              generalize cellsOf ((List.range t).map fun i => r.getD ((f + i) % r.length) []) = cs at *
              clear hmm hy
              go_wp2_with (at_builtin
                           refine wpList_append_lies _ rfl _ _ _ rfl w1.heap.size 9 i0 _ 1 16 Try.underlying30 hi hz0 hz1 hz2 rfl (by omega) _ t cs rfl (hrow.alloc _) ⟨wr.heap.size, 0, none⟩ 1 1 [.string ⟨y.toArray⟩] rfl rfl (World.news_of_block (cs := #[.string ⟨y.toArray⟩]) (t := 9) (fr := (0, 0)) (heap_alloc_new wr _)) (by simp [Value.oneCell']) (by omega) (by unfold maxLen; omega) (by omega) (by simp; omega) (wr.heap.size + 1) (by simp) ?_
                           intro gg cap w2 hown2 hgrow hat hlt2)
              go_roundw
              case rel => exact ⟨t + 1, by go_num, by omega, by rw [hstep.out]; exact hown2, (hb.alloc hbs _).grown hgrow (by simp; omega) (fun z hz => (hblk z hz).1)⟩
              case measure => simp [intOf]; omega
            · obtain rfl : t = r.length := by omega
              clear hrcel
              go_wp2
              go_ret
              refine ⟨_, rfl, ?_, hb1.trans (hb.mono hb1.size)⟩
              have e1 : cellsOf (turnedS named (way.drop k)) = cellsOf ((List.range r.length).map fun i => r.getD ((f + i) % r.length) []) := by
                unfold turnedS
                rw [hr, show (way.drop k).length = r.length from by rw [← hr]; simp, ← HFE.out, show r.length - 1 = q from by omega]
              rw [e1, ← HRL.out]
              exact ownsRow_mono hrow hb1.size
end Go.Proofs.Ytlnbkljajocfoaa.TRefTurn
