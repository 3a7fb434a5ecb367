/- KCheck; KCheck2; KValid; KSpec: merged into one text: lemmas for the walk of the law. No condition. -/
import Derived.Test.YtkekpiillbpciaaGreatDoorProg
import Derived.Test.YtkekpiillbpciaaGreatDoorM4
import Derived.WalkKit
import Derived.Handy
import Derived.WalkLawsBesides
import Derived.WalkSpells
import Derived.Outline
import Derived.Laws.Pointers
import Derived.BigQuiet
import Derived.Deep.QuietTactic
/- The errors of a sort specification: what both Checks return. Strings and numbers are any. -/
namespace Go.Proofs.YtkekpiillbpciaaGreatDoor.KCheck
open Go Go.RowKit KeyMath KeyVals Strs
set_option maxRecDepth 100000

theorem check_many {p : SortSpec} (h : 8 < p.keys.length) : check p = 3 := by unfold check; rw [if_pos h]
theorem check_range {p : SortSpec} (h : ¬ 8 < p.keys.length) (h2 : p.sep < -1 ∨ 255 < p.sep ∨ p.sep = 10 ∨ p.fl < 0 ∨ 31 < p.fl) : check p = 2 := by unfold check; rw [if_neg h, if_pos h2]
theorem check_keys {p : SortSpec} (h : ¬ 8 < p.keys.length) (h2 : ¬ (p.sep < -1 ∨ 255 < p.sep ∨ p.sep = 10 ∨ p.fl < 0 ∨ 31 < p.fl)) : check p = if p.keys.all Key.ok then 0 else 2 := by unfold check; rw [if_neg h, if_neg h2]
theorem all_of {ks : List Key} (h : ∀ (j : Nat) k, j < ks.length → ks[j]? = some k → k.ok = true) : ks.all Key.ok = true := by
  rw [List.all_eq_true]
  intro k hk
  obtain ⟨j, hj, e⟩ := List.mem_iff_getElem.1 hk
  exact h j k hj (by rw [List.getElem?_eq_getElem hj, e])
theorem not_all {ks : List Key} {j : Nat} {k : Key} (h : ks[j]? = some k) (hk : k.ok = false) : ks.all Key.ok = false := by
  cases ha : ks.all Key.ok with
  | false => rfl
  | true =>
    rw [List.all_eq_true] at ha
    have := ha k (List.mem_of_getElem? h)
    rw [hk] at this
    cases this
theorem ok_iff (k : Key) : k.ok = true ↔ (1 ≤ k.ff ∧ 1 ≤ k.fc ∧ 0 ≤ k.tf ∧ 0 ≤ k.tc ∧ (k.tf = 0 → k.tc = 0) ∧ 0 ≤ k.fl ∧ k.fl ≤ 31) := by unfold Key.ok; exact decide_eq_true_iff
theorem ok_not {k : Key} (h : k.ok = false) : k.ff < 1 ∨ k.fc < 1 ∨ k.tf < 0 ∨ k.tc < 0 ∨ (k.tf = 0 ∧ k.tc ≠ 0) ∨ k.fl < 0 ∨ 31 < k.fl := by
  unfold Key.ok at h
  have := of_decide_eq_false h
  omega

set_option maxHeartbeats 4000000 in
theorem check_any (sv : Value) (p : SortSpec) (w : World) (hk : Keys w sv p.keys) :
    Calls Tryz.prog 13 #[specVal sv p] w fun e w' => e = .returned (.int .i64 (check p)) ∧ Below w.heap.size w w' := by
  obtain ⟨a, c, rfl, ⟨hlc, hcm⟩, hfit, hcell⟩ := hk
  have hcm' : c ≤ 9223372036854775807 := hcm
  obtain ⟨ks, sep, fl, uq, st⟩ := p
  simp only at hlc hcm hcm' hfit hcell
  show Calls Tryz.prog 13 #[.agg #[.slice a ks.length c, .int .i64 sep, .int .i64 fl, .bool uq, .bool st]] w _
  by_cases h8 : 8 < ks.length
  · have h8' : (8 : Int) < (ks.length : Int) := by omega
    have HC := Lib.hid (check_many (p := ⟨ks, sep, fl, uq, st⟩) h8)
    clear hcell hfit
    go_enter Tryz.func13, Tryz.ntmps13
    go_wp2
    go_ret
    exact ⟨by rw [HC.out]; rfl, (Below.refl _ _).alloc (Nat.le_refl _) _⟩
  · have h8' : (ks.length : Int) ≤ 8 := by omega
    by_cases hr : sep < -1 ∨ 255 < sep ∨ sep = 10 ∨ fl < 0 ∨ 31 < fl
    · have HC := Lib.hid (check_range (p := ⟨ks, sep, fl, uq, st⟩) h8 hr)
      have HR := Lib.hid hr
      clear hcell hfit hr
      go_enter Tryz.func13, Tryz.ntmps13
      go_wp2
      all_goals
        first
        | (go_ret; exact ⟨by rw [HC.out]; rfl, (Below.refl _ _).alloc (Nat.le_refl _) _⟩)
        | (exfalso; have hrr := HR.out; simp only [decide_eq_true_eq, decide_eq_false_iff_not, beq_iff_eq, beq_eq_false_iff_ne] at *; omega)
        | exact True.intro
    · have HC := Lib.hid (check_keys (p := ⟨ks, sep, fl, uq, st⟩) h8 hr)
      have b1 : -1 ≤ sep := by omega
      have b2 : sep ≤ 255 := by omega
      have b3 : (sep == 10) = false := by simp; omega
      have b4 : 0 ≤ fl := by omega
      have b5 : fl ≤ 31 := by omega
      clear hr
      have hfit' := Lib.hid hfit
      have hcell' := Lib.hid hcell
      clear hfit hcell
      go_enter Tryz.func13, Tryz.ntmps13
      go_wp2
      go_loopw [35] (fun i wr => ∃ q : Nat, q ≤ ks.length ∧ i = .int .i64 q ∧ Below w.heap.size w wr ∧ ∀ (j : Nat) k, j < q → ks[j]? = some k → k.ok = true) (fun i _ => ks.length - (intOf i).toNat)
      case atStart => exact ⟨0, Nat.zero_le _, rfl, (Below.refl _ _).alloc (Nat.le_refl _) _, fun j k hj => absurd hj (Nat.not_lt_zero _)⟩
      case round =>
        obtain ⟨q, hq, rfl, hb, hall⟩ := hrel
        have HA := Lib.hid hall
        clear hall
        by_cases hlt : q < ks.length
        · obtain ⟨k, hk⟩ : ∃ k, ks[q]? = some k := ⟨_, List.getElem?_eq_getElem hlt⟩
          obtain ⟨b, off, rfl, hc⟩ := hcell'.out (by intro e; rw [e] at hlt; simp at hlt)
          have hc := hc q k hk
          have k0 := up hb (hc 0 _ rfl)
          have k1 := up hb (hc 1 _ rfl)
          have k2 := up hb (hc 2 _ rfl)
          have k3 := up hb (hc 3 _ rfl)
          have k4 := up hb (hc 4 _ rfl)
          rw [Nat.mul_comm] at k0 k1 k2 k3 k4
          rw [Nat.add_zero] at k0
          have hql : (q : Int) < (ks.length : Int) := by omega
          have HK := Lib.hid hk
          clear hk hc
          obtain ⟨ff, fc, tf, tc, kfl⟩ := k
          simp only at k0 k1 k2 k3 k4
          cases hok : (Key.ok ⟨ff, fc, tf, tc, kfl⟩) with
          | true =>
            obtain ⟨o1, o2, o3, o4, o5, o6, o7⟩ := (ok_iff _).1 hok
            have HO := Lib.hid hok
            have H5 := Lib.hid o5
            simp only at o1 o2 o3 o4 o6 o7
            clear hok o5
            go_wp2
            all_goals
              first
              | (exfalso; have := H5.out; simp only [beq_iff_eq, bne_iff_ne, beq_eq_false_iff_ne, bne_eq_false_iff_eq] at *; omega)
              | (go_roundw
                 case rel => exact ⟨q + 1, by omega, by go_num, hb.alloc hb.size _, fun j k hj hk => by
                   by_cases hjq : j = q
                   · subst hjq
                     rw [HK.out] at hk
                     cases hk
                     exact HO.out
                   · exact HA.out j k (by omega) hk⟩
                 case measure => simp [intOf]; omega)
          | false =>
            have HN := Lib.hid (ok_not hok)
            have HF := Lib.hid (not_all HK.out hok)
            clear hok
            go_wp2
            all_goals
              first
              | (go_ret; exact ⟨by rw [HC.out, HF.out]; rfl, hb.alloc hb.size _⟩)
              | (exfalso; have := HN.out; simp only [beq_iff_eq, bne_iff_ne, beq_eq_false_iff_ne, bne_eq_false_iff_eq] at *; omega)
              | exact True.intro
        · obtain rfl : q = ks.length := by omega
          go_wp2
          go_ret
          exact ⟨by rw [HC.out, all_of fun j k hj hk => HA.out j k hj hk]; rfl, hb⟩
end Go.Proofs.YtkekpiillbpciaaGreatDoor.KCheck

/- The errors of a sort specification by the reference. No condition. -/
namespace Go.Proofs.YtkekpiillbpciaaGreatDoor.KCheck
open Go Go.RowKit KeyMath KeyVals Strs
set_option maxRecDepth 100000
theorem open_ok {k : Key} (h : k.ok = true) : 1 ≤ k.ff ∧ 1 ≤ k.fc ∧ 0 ≤ k.tf ∧ 0 ≤ k.tc ∧ (k.tf = 0 → k.tc = 0) ∧ 0 ≤ k.fl ∧ k.fl ≤ 31 := (ok_iff k).1 h
set_option maxHeartbeats 4000000 in
theorem right_any (k : Key) (w : World) :
    Calls Tryz.prog 46 #[keyVal k] w fun e w' => e = .returned (.bool k.ok) ∧ Below w.heap.size w w' := by
  obtain ⟨ff, fc, tf, tc, kfl⟩ := k
  show Calls Tryz.prog 46 #[.agg #[.int .i64 ff, .int .i64 fc, .int .i64 tf, .int .i64 tc, .int .i64 kfl]] w _
  cases hok : (Key.ok ⟨ff, fc, tf, tc, kfl⟩) with
  | true =>
    obtain ⟨o1, o2, o3, o4, o5, o6, o7⟩ := open_ok hok
    have H5 := Lib.hid o5
    simp only at o1 o2 o3 o4 o6 o7
    clear hok o5
    go_enter Tryz.func46, Tryz.ntmps46
    go_wp2
    all_goals
      first
      | (exfalso; have := H5.out; simp only [beq_iff_eq, bne_iff_ne, beq_eq_false_iff_ne, bne_eq_false_iff_eq] at *; omega)
      | (go_ret; exact ⟨rfl, (Below.refl _ _).alloc (Nat.le_refl _) _⟩)
      | exact True.intro
  | false =>
    have HN := Lib.hid (ok_not hok)
    clear hok
    go_enter Tryz.func46, Tryz.ntmps46
    go_wp2
    all_goals
      first
      | (go_ret; exact ⟨rfl, (Below.refl _ _).alloc (Nat.le_refl _) _⟩)
      | (exfalso; have := HN.out; simp only [beq_iff_eq, bne_iff_ne, beq_eq_false_iff_ne, bne_eq_false_iff_eq] at *; omega)
      | (go_ret; refine ⟨?_, (Below.refl _ _).alloc (Nat.le_refl _) _⟩
         show Ending.returned (Value.bool (decide (kfl ≤ 31))) = _
         rw [show decide (kfl ≤ 31) = false from decide_eq_false (by have h := HN.out; (try simp only [beq_iff_eq, bne_iff_ne, beq_eq_false_iff_ne, bne_eq_false_iff_eq] at *); omega)])
set_option maxHeartbeats 4000000 in
theorem refCheck_any (sv : Value) (p : SortSpec) (w : World) (hk : Keys w sv p.keys) :
    Calls Tryz.prog 20 #[specVal sv p] w fun e w' => e = .returned (.int .i64 (check p)) ∧ Below w.heap.size w w' := by
  obtain ⟨a, c, rfl, ⟨hlc, hcm⟩, hfit, hcell⟩ := hk
  have hcm' : c ≤ 9223372036854775807 := hcm
  obtain ⟨ks, sep, fl, uq, st⟩ := p
  simp only at hlc hcm hcm' hfit hcell
  show Calls Tryz.prog 20 #[.agg #[.slice a ks.length c, .int .i64 sep, .int .i64 fl, .bool uq, .bool st]] w _
  by_cases h8 : 8 < ks.length
  · have h8' : (8 : Int) < (ks.length : Int) := by omega
    have HC := Lib.hid (check_many (p := ⟨ks, sep, fl, uq, st⟩) h8)
    clear hcell hfit
    go_enter Tryz.func20, Tryz.ntmps20
    go_wp2
    go_ret
    exact ⟨by rw [HC.out]; rfl, (Below.refl _ _).alloc (Nat.le_refl _) _⟩
  · have h8' : (ks.length : Int) ≤ 8 := by omega
    by_cases hr : sep < -1 ∨ 255 < sep ∨ sep = 10 ∨ fl < 0 ∨ 31 < fl
    · have HC := Lib.hid (check_range (p := ⟨ks, sep, fl, uq, st⟩) h8 hr)
      have HR := Lib.hid hr
      clear hcell hfit hr
      go_enter Tryz.func20, Tryz.ntmps20
      go_wp2
      all_goals
        first
        | (go_ret; exact ⟨by rw [HC.out]; rfl, (Below.refl _ _).alloc (Nat.le_refl _) _⟩)
        | (exfalso; have hrr := HR.out; simp only [decide_eq_true_eq, decide_eq_false_iff_not, beq_iff_eq, beq_eq_false_iff_ne] at *; omega)
        | exact True.intro
    · have HC := Lib.hid (check_keys (p := ⟨ks, sep, fl, uq, st⟩) h8 hr)
      have b1 : -1 ≤ sep := by omega
      have b2 : sep ≤ 255 := by omega
      have b3 : (sep == 10) = false := by simp; omega
      have b4 : 0 ≤ fl := by omega
      have b5 : fl ≤ 31 := by omega
      clear hr
      have hfit' := Lib.hid hfit
      have hcell' := Lib.hid hcell
      clear hfit hcell
      go_enter Tryz.func20, Tryz.ntmps20
      go_wp2
      go_loopw [3] (fun i wr => ∃ q : Nat, q ≤ ks.length ∧ i = .int .i64 q ∧ Below w.heap.size w wr ∧ wr.heap[w.heap.size]? = some (.cells #[.slice a ks.length c, .int .i64 sep, .int .i64 fl, .bool uq, .bool st] 24 (0, 0)) ∧ ∀ (j : Nat) k, j < q → ks[j]? = some k → k.ok = true) (fun i _ => ks.length - (intOf i).toNat)
      case atStart => exact ⟨0, Nat.zero_le _, rfl, (Below.refl _ _).alloc (Nat.le_refl _) _, heap_alloc_new w _, fun j k hj => absurd hj (Nat.not_lt_zero _)⟩
      case round =>
        obtain ⟨q, hq, rfl, hb, hbox, hall⟩ := hrel
        have HA := Lib.hid hall
        have HB := Lib.hid hbox
        have s0 : wr.cell? ⟨w.heap.size, 0, none⟩ = some (.slice a ks.length c) := by rw [cell_of_row wr _ _ _ _ _ hbox]; rfl
        have hlw : w.heap.size < wr.heap.size := (Array.getElem?_eq_some_iff.1 hbox).1
        clear hall hbox
        by_cases hlt : q < ks.length
        · obtain ⟨k, hk⟩ : ∃ k, ks[q]? = some k := ⟨_, List.getElem?_eq_getElem hlt⟩
          obtain ⟨b, off, rfl, hc⟩ := hcell'.out (by intro e; rw [e] at hlt; simp at hlt)
          have hc := hc q k hk
          have k0 := up hb (hc 0 _ rfl)
          have k1 := up hb (hc 1 _ rfl)
          have k2 := up hb (hc 2 _ rfl)
          have k3 := up hb (hc 3 _ rfl)
          have k4 := up hb (hc 4 _ rfl)
          rw [Nat.mul_comm] at k0 k1 k2 k3 k4
          rw [Nat.add_zero] at k0
          have hql : (q : Int) < (ks.length : Int) := by omega
          have HK := Lib.hid hk
          clear hk hc
          have HR := Lib.hid (fun W => right_any k W)
          cases hok : k.ok with
          | true =>
            rw [hok] at HR
            have HO := Lib.hid hok
            clear hok
            obtain ⟨ff, fc, tf, tc, kfl⟩ := k
            simp only [keyVal] at k0 k1 k2 k3 k4 HR
            go_wp2_with (go_at_call 46; (with_reducible refine (HR.out _).mono ?_); rintro e w2 ⟨rfl, hb2⟩)
            go_roundw
            case rel => exact ⟨q + 1, by omega, by go_num, hb.trans (hb2.mono hb.size), (hb2.block _ hlw).trans HB.out, fun j k hj hk => by
              by_cases hjq : j = q
              · subst hjq
                rw [HK.out] at hk
                cases hk
                exact HO.out
              · exact HA.out j k (by omega) hk⟩
            case measure => simp [intOf]; omega
          | false =>
            have HF := Lib.hid (not_all HK.out hok)
            rw [hok] at HR
            clear hok
            obtain ⟨ff, fc, tf, tc, kfl⟩ := k
            simp only [keyVal] at k0 k1 k2 k3 k4 HR
            go_wp2_with (go_at_call 46; (with_reducible refine (HR.out _).mono ?_); rintro e w2 ⟨rfl, hb2⟩)
            go_ret
            exact ⟨by rw [HC.out, HF.out]; rfl, hb.trans (hb2.mono hb.size)⟩
        · obtain rfl : q = ks.length := by omega
          go_wp2
          go_ret
          exact ⟨by rw [HC.out, all_of fun j k hj hk => HA.out j k hj hk]; rfl, hb⟩
end Go.Proofs.YtkekpiillbpciaaGreatDoor.KCheck

/- The specification that stands for another one: a specification without an error stands for itself. -/
namespace Go.Proofs.YtkekpiillbpciaaGreatDoor.KCheck
open Go Go.RowKit KeyMath KeyVals Strs
set_option maxRecDepth 100000
theorem valid_any (sv : Value) (p : SortSpec) (w : World) (hk : Keys w sv p.keys) (h0 : check p = 0) :
    Calls Tryz.prog 62 #[specVal sv p] w fun e w' => e = .returned (specVal sv p) ∧ Below w.heap.size w w' := by
  have HC := Lib.hid (fun W (hW : Keys W sv p.keys) => check_any sv p W hW)
  rw [h0] at HC
  have HK := Lib.hid hk
  clear hk h0
  obtain ⟨ks, sep, fl, uq, st⟩ := p
  simp only [specVal] at HC HK ⊢
  have H2 := HK.out
  obtain ⟨a, c, rfl, -⟩ := H2
  go_enter Tryz.func62, Tryz.ntmps62
  go_wp2_with (go_at_call 13; (with_reducible refine (HC.out _ (HK.out.below (((Below.refl _ _).alloc (Nat.le_refl _) _).alloc (by simp) _))).mono ?_); rintro e w2 ⟨rfl, hb2⟩; obtain ⟨hc2, hf2⟩ := bcell hb2; have hz2 : w.heap.size + 1 < w2.heap.size := by have := hb2.size; simp at this; omega)
  refine bodyPost_ret (v := .agg #[.slice a ks.length c, .int .i64 sep, .int .i64 fl, .bool uq, .bool st]) ?_ rfl ⟨rfl, ?_⟩
  · simp [results, Tryz.results62, go_sem, hc2, hz2]
  · exact (((((((Below.refl _ _).alloc (Nat.le_refl _) _).alloc (by simp) _).trans (hb2.mono (by simp; omega))).setCell (by simp) _).setCell (by simp) _).setCell (by simp) _).setCell (by simp) _ |>.setCell (by simp) _
theorem refValid_any (sv : Value) (p : SortSpec) (w : World) (hk : Keys w sv p.keys) (h0 : check p = 0) :
    Calls Tryz.prog 66 #[specVal sv p] w fun e w' => e = .returned (specVal sv p) ∧ Below w.heap.size w w' := by
  have HC := Lib.hid (fun W (hW : Keys W sv p.keys) => refCheck_any sv p W hW)
  rw [h0] at HC
  have HK := Lib.hid hk
  clear hk h0
  obtain ⟨ks, sep, fl, uq, st⟩ := p
  simp only [specVal] at HC HK ⊢
  have H2 := HK.out
  obtain ⟨a, c, rfl, -⟩ := H2
  go_enter Tryz.func66, Tryz.ntmps66
  go_wp2_with (go_at_call 20; (with_reducible refine (HC.out _ (HK.out.below (((Below.refl _ _).alloc (Nat.le_refl _) _).alloc (by simp) _))).mono ?_); rintro e w2 ⟨rfl, hb2⟩; obtain ⟨hc2, hf2⟩ := bcell hb2; have hz2 : w.heap.size + 1 < w2.heap.size := by have := hb2.size; simp at this; omega)
  refine bodyPost_ret (v := .agg #[.slice a ks.length c, .int .i64 sep, .int .i64 fl, .bool uq, .bool st]) ?_ rfl ⟨rfl, ?_⟩
  · simp [results, Tryz.results66, go_sem, hc2, hz2]
  · exact (((((((Below.refl _ _).alloc (Nat.le_refl _) _).alloc (by simp) _).trans (hb2.mono (by simp; omega))).setCell (by simp) _).setCell (by simp) _).setCell (by simp) _).setCell (by simp) _ |>.setCell (by simp) _
end Go.Proofs.YtkekpiillbpciaaGreatDoor.KCheck

/- A specification in a block of its own. -/
namespace Go.Proofs.YtkekpiillbpciaaGreatDoor.KSpec
open Go Go.RowKit KeyMath KeyVals Strs
set_option maxRecDepth 100000
/-- the specification p, its keys at sv, in a block of its own -/
def SBox (w : World) (b : Nat) (sv : Value) (p : SortSpec) : Prop := w.heap[b]? = some (.cells #[sv, .int .i64 p.sep, .int .i64 p.fl, .bool p.uniq, .bool p.stable] 24 (0, 0))
theorem SBox.cells {w : World} {b : Nat} {sv : Value} {p : SortSpec} (h : SBox w b sv p) : w.cell? ⟨b, 0, none⟩ = some sv ∧ w.cell? ⟨b, 1, none⟩ = some (.int .i64 p.sep) ∧ w.cell? ⟨b, 2, none⟩ = some (.int .i64 p.fl) ∧ w.cell? ⟨b, 3, none⟩ = some (.bool p.uniq) ∧ w.cell? ⟨b, 4, none⟩ = some (.bool p.stable) := by
  refine ⟨?_, ?_, ?_, ?_, ?_⟩ <;> (rw [cell_of_row w b _ _ _ _ h]; rfl)
theorem SBox.lt {w : World} {b : Nat} {sv : Value} {p : SortSpec} (h : SBox w b sv p) : b < w.heap.size := (Array.getElem?_eq_some_iff.1 h).1
theorem SBox.keep {w w' : World} {b : Nat} {sv : Value} {p : SortSpec} (h : SBox w b sv p) (hk : w'.heap[b]? = w.heap[b]?) : SBox w' b sv p := hk.trans h
/-- storing what is there changes nothing -/
theorem SBox.same {w : World} {b : Nat} {sv : Value} {p : SortSpec} (h : SBox w b sv p) : w.setCell ⟨b, 0, none⟩ sv = w ∧ w.setCell ⟨b, 1, none⟩ (.int .i64 p.sep) = w ∧ w.setCell ⟨b, 2, none⟩ (.int .i64 p.fl) = w ∧ w.setCell ⟨b, 3, none⟩ (.bool p.uniq) = w ∧ w.setCell ⟨b, 4, none⟩ (.bool p.stable) = w ∧ (∀ o, w.frozen? ⟨b, o, none⟩ = false) := by
  unfold SBox at h
  refine ⟨setCell_self h (o := 0) rfl, setCell_self h (o := 1) rfl, setCell_self h (o := 2) rfl, setCell_self h (o := 3) rfl, setCell_self h (o := 4) rfl, fun o => ?_⟩
  simp [World.frozen?, h]
end Go.Proofs.YtkekpiillbpciaaGreatDoor.KSpec
