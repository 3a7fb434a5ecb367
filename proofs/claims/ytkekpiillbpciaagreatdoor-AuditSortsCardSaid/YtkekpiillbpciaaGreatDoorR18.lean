/- The first line that must not follow the one before it: what both sides' Unsorted return. Lines of at most 65536 bytes. -/
import Derived.Test.YtkekpiillbpciaaGreatDoorR17
import Derived.Test.YtkekpiillbpciaaGreatDoorR16
namespace Go.Proofs.YtkekpiillbpciaaGreatDoor.KUnsorted
open Go Go.RowKit KeyMath KeyVals ScanMath Strs KLoc KRefCmp KSpec KEnv SortMath KMerge
set_option maxRecDepth 100000
def uns (p : SortSpec) (l : List Str) (i : Nat) : Bool := decide (0 < i) && at2 (bad p) l[i - 1]? l[i]?
theorem uns_at {p : SortSpec} {l : List Str} {k : Nat} {x y : Str} (hx : l[k]? = some x) (hy : l[k + 1]? = some y) : uns p l (k + 1) = decide (0 < order p x y ∨ p.uniq = true ∧ order p x y = 0) := by
  unfold uns
  rw [Nat.add_sub_cancel, hx, hy]
  simp [at2, bad]
set_option maxHeartbeats 16000000 in
theorem unsorted_any (v sv : Value) (p : SortSpec) (ls : List Str) (a : Value) (w : World) (hv : Wts w v) (hk : Keys w sv p.keys) (h0 : check p = 0) (hfit : Fit ls) (ha : Strs w a ls) :
    Calls Tryz.prog 15 #[.agg #[posix, v, .string ⟨lowT.toArray⟩, .string ⟨upT.toArray⟩, .slice none 0 0, .slice none 0 0], specVal sv p, a] w fun e w' => e = .returned (.int .i64 (unsorted p ls)) ∧ Below w.heap.size w w' := by
  have HCK := Lib.hid (fun W (hW : Keys W sv p.keys) => KCheck.check_any sv p W hW)
  rw [h0] at HCK
  have HO := Lib.hid (fun x y (hx : x.length ≤ 65536) (hy : y.length ≤ 65536) W hW hK => order_any v sv p x y W hW hK h0 hx hy)
  have HUB : Hid (∀ k x y, ls[k]? = some x → ls[k + 1]? = some y → uns p ls (k + 1) = decide (0 < order p x y ∨ p.uniq = true ∧ order p x y = 0)) := fun k x y hx hy => uns_at hx hy
  have HU : Hid (unsorted p ls = firstAt (uns p ls) ls.length) := rfl
  have HU0 : Hid (uns p ls 0 = false) := rfl
  have HV := Lib.hid hv
  have HK := Lib.hid hk
  have HF := Lib.hid hfit
  obtain ⟨aa, ca, rfl, hma0, hca⟩ := ha
  have hma : ls.length ≤ 2 ^ 63 - 1 := Nat.le_trans hma0.1 hma0.2
  clear hma0 hfit h0
  obtain ⟨g, c, rfl, hgc, hcell⟩ := hv
  obtain ⟨ka, kc, rfl, -⟩ := hk
  clear hcell
  obtain ⟨ks, sep, fl, uq, st⟩ := p
  unfold posix specVal at *
  simp only at *
  generalize unsorted (⟨ks, sep, fl, uq, st⟩ : SortSpec) ls = R at *
  generalize uns (⟨ks, sep, fl, uq, st⟩ : SortSpec) ls = U at *
  have hb1 := ((Below.refl w.heap.size w).alloc (Nat.le_refl _) (.cells #[.string ⟨#[112, 111, 115, 105, 120]⟩, .slice (some ⟨g, 0, none⟩) 256 c, .string ⟨lowT.toArray⟩, .string ⟨upT.toArray⟩, .slice none 0 0, .slice none 0 0] 37)).alloc (by simp) (.cells #[.slice ka ks.length kc, .int .i64 sep, .int .i64 fl, .bool uq, .bool st] 24)
  have HB1 := Lib.hid hb1
  clear hb1
  go_enter Tryz.func15, Tryz.ntmps15
  go_wp2_with (go_at_call 13
               (with_reducible refine (HCK.out _ (HK.out.below HB1.out)).mono ?_)
               rintro e w2 ⟨rfl, hb2⟩
               have HB2 := Lib.hid (below_step HB1.out hb2)
               have hbx : Box w2 w.heap.size (.slice (some ⟨g, 0, none⟩) 256 c) := (hb2.block _ (by simp <;> omega)).trans ((Below.heap_alloc _ _ _ (by simp)).trans (heap_alloc_new w _))
               have hsx : SBox w2 (w.heap.size + 1) (.slice ka ks.length kc) ⟨ks, sep, fl, uq, st⟩ := (hb2.block _ (by simp)).trans (alloc2 w _ _)
               replace hbx := Lib.hid hbx
               replace hsx := Lib.hid hsx)
  rcases Nat.eq_zero_or_pos ls.length with hl0 | hl0
  · have hl0' : (ls.length : Int) = 0 := by omega
    have HR : Hid (R = -1) := by show _ = _; rw [HU.out, hl0]; rfl
    go_loopw [7] (fun i wr => i = .int .i64 1 ∧ Below w.heap.size w wr) (fun _ _ => 0)
    case atStart => exact ⟨rfl, HB2.out⟩
    case round =>
      obtain ⟨rfl, hbw⟩ := hrel
      clear hca
      go_wp2
      go_ret
      exact ⟨by rw [HR.out]; rfl, hbw⟩
  · go_loopw [7] (fun i wr => ∃ k : Nat, k + 1 ≤ ls.length ∧ i = .int .i64 ((k : Int) + 1) ∧ Below w.heap.size w wr ∧ Box wr w.heap.size (.slice (some ⟨g, 0, none⟩) 256 c) ∧ SBox wr (w.heap.size + 1) (.slice ka ks.length kc) ⟨ks, sep, fl, uq, st⟩ ∧ Hid (∀ j, j < k + 1 → U j = false)) (fun i _ => ls.length - (intOf i).toNat)
    case atStart => exact ⟨0, hl0, rfl, HB2.out, hbx.out, hsx.out, fun j hj => by rw [show j = 0 from by omega]; exact HU0.out⟩
    case round =>
      obtain ⟨k, hk, rfl, hbw, hbx, hsx, HT⟩ := hrel
      have HBX := Lib.hid hbx
      have HSX := Lib.hid hsx
      have HBW := Lib.hid hbw
      have hws := hbw.size
      have hlx := hsx.lt
      obtain ⟨-, c1, c2, c3, c4, c5⟩ := hbx.cells
      have c0 := hbx.cells'
      obtain ⟨d0, d1, d2, d3, d4⟩ := hsx.cells
      clear hbx hsx
      by_cases hlt : k + 1 < ls.length
      · have hkl : (k : Int) + 1 < (ls.length : Int) := by omega
        have hkl2 : (k : Int) < (ls.length : Int) := by omega
        have hkn : k < ls.length := by omega
        obtain ⟨bx, ox, rfl, hcx⟩ := hca (by intro e; subst e; simp at hlt)
        have hxs : ls[k]? = some ls[k] := List.getElem?_eq_getElem hkn
        have hys : ls[k + 1]? = some ls[k + 1] := List.getElem?_eq_getElem hlt
        have hx := up hbw (hcx k _ hxs)
        have hy := up hbw (hcx (k + 1) _ hys)
        have HXL := Lib.hid (HF.out _ (List.getElem_mem hkn))
        have HYL := Lib.hid (HF.out _ (List.getElem_mem hlt))
        have HUK := Lib.hid (HUB.out k _ _ hxs hys)
        clear hxs hys hca hcx
        generalize ls[k] = x at *
        generalize ls[k + 1] = y at *
        have HOK := Lib.hid (fun W hW hK => HO.out x y HXL.out HYL.out W hW hK)
        generalize order (⟨ks, sep, fl, uq, st⟩ : SortSpec) x y = C at *
        have main : (0 < C) ∨ (C = 0 ∧ uq = true) ∨ (C = 0 ∧ uq = false) ∨ (C < 0 ∧ uq = true) ∨ (C < 0 ∧ uq = false) := by
          cases uq <;> simp <;> omega
        go_wp2
        refine KCompare.enter (by kernel_rfl) (by kernel_rfl) ?_
        intro X F hN hBF hF
        have hX : ∀ z, Box (F z) w.heap.size (.slice (some ⟨g, 0, none⟩) 256 c) := fun z => HBX.out.keep ((hBF z).block _ HBX.out.lt)
        have hS : ∀ z, SBox (F z) (w.heap.size + 1) (.slice ka ks.length kc) ⟨ks, sep, fl, uq, st⟩ := fun z => HSX.out.keep ((hBF z).block _ HSX.out.lt)
        have hBel : ∀ z, Below w.heap.size w (F z) := fun z => hbw.trans ((hBF z).mono hws)
        have HVF : Hid (∀ z, Wts (F z) (.slice (some ⟨g, 0, none⟩) 256 c)) := fun z => HV.out.below (hBel z)
        have HKF : Hid (∀ z, Keys (F z) (.slice ka ks.length kc) ks) := fun z => HK.out.below (hBel z)
        clear c0 c1 c2 c3 c4 c5 d0 d1 d2 d3 d4
        have c0 : ∀ z, (F z).cell? ⟨w.heap.size, 0, none⟩ = some (.string ⟨#[112, 111, 115, 105, 120]⟩) := fun z => (hX z).cells'
        have c1 : ∀ z, (F z).cell? ⟨w.heap.size, 1, none⟩ = some (.slice (some ⟨g, 0, none⟩) 256 c) := fun z => (hX z).cells.2.1
        have c2 : ∀ z, (F z).cell? ⟨w.heap.size, 2, none⟩ = some (.string ⟨lowT.toArray⟩) := fun z => (hX z).cells.2.2.1
        have c3 : ∀ z, (F z).cell? ⟨w.heap.size, 3, none⟩ = some (.string ⟨upT.toArray⟩) := fun z => (hX z).cells.2.2.2.1
        have c4 : ∀ z, (F z).cell? ⟨w.heap.size, 4, none⟩ = some (.slice none 0 0) := fun z => (hX z).cells.2.2.2.2.1
        have c5 : ∀ z, (F z).cell? ⟨w.heap.size, 5, none⟩ = some (.slice none 0 0) := fun z => (hX z).cells.2.2.2.2.2
        have d0 : ∀ z, (F z).cell? ⟨w.heap.size + 1, 0, none⟩ = some (.slice ka ks.length kc) := fun z => (hS z).cells.1
        have d1 : ∀ z, (F z).cell? ⟨w.heap.size + 1, 1, none⟩ = some (.int .i64 sep) := fun z => (hS z).cells.2.1
        have d2 : ∀ z, (F z).cell? ⟨w.heap.size + 1, 2, none⟩ = some (.int .i64 fl) := fun z => (hS z).cells.2.2.1
        have d3 : ∀ z, (F z).cell? ⟨w.heap.size + 1, 3, none⟩ = some (.bool uq) := fun z => (hS z).cells.2.2.2.1
        have d4 : ∀ z, (F z).cell? ⟨w.heap.size + 1, 4, none⟩ = some (.bool st) := fun z => (hS z).cells.2.2.2.2
        have hxf : ∀ z, (F z).cell? ⟨bx, ox + k, none⟩ = some (.string ⟨x.toArray⟩) := fun z => up (hBF z) hx
        have hyf : ∀ z, (F z).cell? ⟨bx, ox + (k + 1), none⟩ = some (.string ⟨y.toArray⟩) := fun z => up (hBF z) hy
        have HXF := Lib.hid hX
        have HSF := Lib.hid hS
        have HBF := Lib.hid hBF
        have HBL := Lib.hid hBel
        clear hX hS hBel hBF
        repeat go_big_quiet_step (first
          | (go_at_call 35
             (with_reducible refine (HOK.out _ (HVF.out _) (HKF.out _)).mono ?_)
             rintro e w1 ⟨rfl, hb1⟩
             exact ⟨rfl, hF _ _ hb1⟩))
        refine wpQuiet_nil ?_
        rintro _ ⟨z, rfl⟩
        clear hx hy hxf hyf
        rcases main with hC | ⟨hC, rfl⟩ | ⟨hC, rfl⟩ | ⟨hC, rfl⟩ | ⟨hC, rfl⟩
        · have HB : Hid (U (k + 1) = true) := HUK.out.trans (decide_eq_true (.inl hC))
          have HR : Hid (R = ((k + 1 : Nat) : Int)) := HU.out.trans (first_hit HT.out hlt HB.out)
          go_wp2
          go_ret
          exact ⟨by rw [HR.out]; exact ret_int (by omega), HBL.out z⟩
        · have HB : Hid (U (k + 1) = true) := HUK.out.trans (decide_eq_true (.inr ⟨rfl, hC⟩))
          have HR : Hid (R = ((k + 1 : Nat) : Int)) := HU.out.trans (first_hit HT.out hlt HB.out)
          subst hC
          go_wp2
          go_ret
          exact ⟨by rw [HR.out]; exact ret_int (by omega), HBL.out z⟩
        · have HB : Hid (U (k + 1) = false) := HUK.out.trans (decide_eq_false (by simp [hC]))
          subst hC
          go_wp2
          go_roundw
          case rel => exact ⟨k + 1, by omega, by go_num, HBL.out z, HXF.out z, HSF.out z, fun j hj => by
            by_cases hjk : j = k + 1
            · rw [hjk]; exact HB.out
            · exact HT.out j (by omega)⟩
          case measure => simp [intOf]; omega
        · have HB : Hid (U (k + 1) = false) := HUK.out.trans (decide_eq_false (by simp; omega))
          have hC0 : ¬ 0 < C := by omega
          have hC1 : (C == 0) = false := by
            have : C ≠ 0 := by omega
            simpa using this
          clear hC
          go_wp2
          go_roundw
          case rel => exact ⟨k + 1, by omega, by go_num, HBL.out z, HXF.out z, HSF.out z, fun j hj => by
            by_cases hjk : j = k + 1
            · rw [hjk]; exact HB.out
            · exact HT.out j (by omega)⟩
          case measure => simp [intOf]; omega
        · have HB : Hid (U (k + 1) = false) := HUK.out.trans (decide_eq_false (by simp; omega))
          have hC0 : ¬ 0 < C := by omega
          have hC1 : (C == 0) = false := by
            have : C ≠ 0 := by omega
            simpa using this
          clear hC
          go_wp2
          go_roundw
          case rel => exact ⟨k + 1, by omega, by go_num, HBL.out z, HXF.out z, HSF.out z, fun j hj => by
            by_cases hjk : j = k + 1
            · rw [hjk]; exact HB.out
            · exact HT.out j (by omega)⟩
          case measure => simp [intOf]; omega
      · have hend : k + 1 = ls.length := by omega
        have hkl : ¬ (k : Int) + 1 < (ls.length : Int) := by omega
        have HR : Hid (R = -1) := by
          show _ = _
          rw [HU.out]
          exact first_none fun j hj => HT.out j (by omega)
        clear hca hend
        go_wp2
        go_ret
        exact ⟨by rw [HR.out]; rfl, hbw⟩
set_option maxHeartbeats 16000000 in
theorem refUnsorted_any (v sv : Value) (p : SortSpec) (ls : List Str) (a : Value) (w : World) (hv : Wts w v) (hk : Keys w sv p.keys) (h0 : check p = 0) (hfit : Fit ls) (ha : Strs w a ls) :
    Calls Tryz.prog 22 #[.agg #[posix, v, .string ⟨lowT.toArray⟩, .string ⟨upT.toArray⟩, .slice none 0 0, .slice none 0 0], specVal sv p, a] w fun e w' => e = .returned (.int .i64 (unsorted p ls)) ∧ Below w.heap.size w w' := by
  have HCK := Lib.hid (fun W (hW : Keys W sv p.keys) => KCheck.refCheck_any sv p W hW)
  rw [h0] at HCK
  have HO := Lib.hid (fun x y (hx : x.length ≤ 65536) (hy : y.length ≤ 65536) W hW hK => KRefSort.refOrder_on v sv p x y W hW hK h0 hx hy)
  have HUB : Hid (∀ k x y, ls[k]? = some x → ls[k + 1]? = some y → uns p ls (k + 1) = decide (0 < order p x y ∨ p.uniq = true ∧ order p x y = 0)) := fun k x y hx hy => uns_at hx hy
  have HU : Hid (unsorted p ls = firstAt (uns p ls) ls.length) := rfl
  have HU0 : Hid (uns p ls 0 = false) := rfl
  have HV := Lib.hid hv
  have HK := Lib.hid hk
  have HF := Lib.hid hfit
  obtain ⟨aa, ca, rfl, hma0, hca⟩ := ha
  have hma : ls.length ≤ 2 ^ 63 - 1 := Nat.le_trans hma0.1 hma0.2
  clear hma0 hfit h0
  obtain ⟨g, c, rfl, hgc, hcell⟩ := hv
  obtain ⟨ka, kc, rfl, -⟩ := hk
  clear hcell
  obtain ⟨ks, sep, fl, uq, st⟩ := p
  unfold posix specVal at *
  simp only at *
  generalize unsorted (⟨ks, sep, fl, uq, st⟩ : SortSpec) ls = R at *
  generalize uns (⟨ks, sep, fl, uq, st⟩ : SortSpec) ls = U at *
  have hb1 := ((Below.refl w.heap.size w).alloc (Nat.le_refl _) (.cells #[.string ⟨#[112, 111, 115, 105, 120]⟩, .slice (some ⟨g, 0, none⟩) 256 c, .string ⟨lowT.toArray⟩, .string ⟨upT.toArray⟩, .slice none 0 0, .slice none 0 0] 37)).alloc (by simp) (.cells #[.slice ka ks.length kc, .int .i64 sep, .int .i64 fl, .bool uq, .bool st] 24)
  have HB1 := Lib.hid hb1
  clear hb1
  go_enter Tryz.func22, Tryz.ntmps22
  go_wp2_with (go_at_call 20
               (with_reducible refine (HCK.out _ (HK.out.below HB1.out)).mono ?_)
               rintro e w2 ⟨rfl, hb2⟩
               have HB2 := Lib.hid (below_step HB1.out hb2)
               have hbx : Box w2 w.heap.size (.slice (some ⟨g, 0, none⟩) 256 c) := (hb2.block _ (by simp <;> omega)).trans ((Below.heap_alloc _ _ _ (by simp)).trans (heap_alloc_new w _))
               have hsx : SBox w2 (w.heap.size + 1) (.slice ka ks.length kc) ⟨ks, sep, fl, uq, st⟩ := (hb2.block _ (by simp)).trans (alloc2 w _ _)
               replace hbx := Lib.hid hbx
               replace hsx := Lib.hid hsx)
  rcases Nat.eq_zero_or_pos ls.length with hl0 | hl0
  · have hl0' : (ls.length : Int) = 0 := by omega
    have HR : Hid (R = -1) := by show _ = _; rw [HU.out, hl0]; rfl
    go_loopw [7] (fun i wr => i = .int .i64 1 ∧ Below w.heap.size w wr) (fun _ _ => 0)
    case atStart => exact ⟨rfl, HB2.out⟩
    case round =>
      obtain ⟨rfl, hbw⟩ := hrel
      clear hca
      go_wp2
      go_ret
      exact ⟨by rw [HR.out]; rfl, hbw⟩
  · go_loopw [7] (fun i wr => ∃ k : Nat, k + 1 ≤ ls.length ∧ i = .int .i64 ((k : Int) + 1) ∧ Below w.heap.size w wr ∧ Box wr w.heap.size (.slice (some ⟨g, 0, none⟩) 256 c) ∧ SBox wr (w.heap.size + 1) (.slice ka ks.length kc) ⟨ks, sep, fl, uq, st⟩ ∧ Hid (∀ j, j < k + 1 → U j = false)) (fun i _ => ls.length - (intOf i).toNat)
    case atStart => exact ⟨0, hl0, rfl, HB2.out, hbx.out, hsx.out, fun j hj => by rw [show j = 0 from by omega]; exact HU0.out⟩
    case round =>
      obtain ⟨k, hk, rfl, hbw, hbx, hsx, HT⟩ := hrel
      have HBX := Lib.hid hbx
      have HSX := Lib.hid hsx
      have HBW := Lib.hid hbw
      have hws := hbw.size
      have hlx := hsx.lt
      obtain ⟨-, c1, c2, c3, c4, c5⟩ := hbx.cells
      have c0 := hbx.cells'
      obtain ⟨d0, d1, d2, d3, d4⟩ := hsx.cells
      clear hbx hsx
      by_cases hlt : k + 1 < ls.length
      · have hkl : (k : Int) + 1 < (ls.length : Int) := by omega
        have hkl2 : (k : Int) < (ls.length : Int) := by omega
        have hkn : k < ls.length := by omega
        obtain ⟨bx, ox, rfl, hcx⟩ := hca (by intro e; subst e; simp at hlt)
        have hxs : ls[k]? = some ls[k] := List.getElem?_eq_getElem hkn
        have hys : ls[k + 1]? = some ls[k + 1] := List.getElem?_eq_getElem hlt
        have hx := up hbw (hcx k _ hxs)
        have hy := up hbw (hcx (k + 1) _ hys)
        have HXL := Lib.hid (HF.out _ (List.getElem_mem hkn))
        have HYL := Lib.hid (HF.out _ (List.getElem_mem hlt))
        have HUK := Lib.hid (HUB.out k _ _ hxs hys)
        clear hxs hys hca hcx
        generalize ls[k] = x at *
        generalize ls[k + 1] = y at *
        have HOK := Lib.hid (fun W hW hK => HO.out x y HXL.out HYL.out W hW hK)
        generalize order (⟨ks, sep, fl, uq, st⟩ : SortSpec) x y = C at *
        have main : (0 < C) ∨ (C = 0 ∧ uq = true) ∨ (C = 0 ∧ uq = false) ∨ (C < 0 ∧ uq = true) ∨ (C < 0 ∧ uq = false) := by
          cases uq <;> simp <;> omega
        go_wp2
        refine KCompare.enter (by kernel_rfl) (by kernel_rfl) ?_
        intro X F hN hBF hF
        have hX : ∀ z, Box (F z) w.heap.size (.slice (some ⟨g, 0, none⟩) 256 c) := fun z => HBX.out.keep ((hBF z).block _ HBX.out.lt)
        have hS : ∀ z, SBox (F z) (w.heap.size + 1) (.slice ka ks.length kc) ⟨ks, sep, fl, uq, st⟩ := fun z => HSX.out.keep ((hBF z).block _ HSX.out.lt)
        have hBel : ∀ z, Below w.heap.size w (F z) := fun z => hbw.trans ((hBF z).mono hws)
        have HVF : Hid (∀ z, Wts (F z) (.slice (some ⟨g, 0, none⟩) 256 c)) := fun z => HV.out.below (hBel z)
        have HKF : Hid (∀ z, Keys (F z) (.slice ka ks.length kc) ks) := fun z => HK.out.below (hBel z)
        clear c0 c1 c2 c3 c4 c5 d0 d1 d2 d3 d4
        have c0 : ∀ z, (F z).cell? ⟨w.heap.size, 0, none⟩ = some (.string ⟨#[112, 111, 115, 105, 120]⟩) := fun z => (hX z).cells'
        have c1 : ∀ z, (F z).cell? ⟨w.heap.size, 1, none⟩ = some (.slice (some ⟨g, 0, none⟩) 256 c) := fun z => (hX z).cells.2.1
        have c2 : ∀ z, (F z).cell? ⟨w.heap.size, 2, none⟩ = some (.string ⟨lowT.toArray⟩) := fun z => (hX z).cells.2.2.1
        have c3 : ∀ z, (F z).cell? ⟨w.heap.size, 3, none⟩ = some (.string ⟨upT.toArray⟩) := fun z => (hX z).cells.2.2.2.1
        have c4 : ∀ z, (F z).cell? ⟨w.heap.size, 4, none⟩ = some (.slice none 0 0) := fun z => (hX z).cells.2.2.2.2.1
        have c5 : ∀ z, (F z).cell? ⟨w.heap.size, 5, none⟩ = some (.slice none 0 0) := fun z => (hX z).cells.2.2.2.2.2
        have d0 : ∀ z, (F z).cell? ⟨w.heap.size + 1, 0, none⟩ = some (.slice ka ks.length kc) := fun z => (hS z).cells.1
        have d1 : ∀ z, (F z).cell? ⟨w.heap.size + 1, 1, none⟩ = some (.int .i64 sep) := fun z => (hS z).cells.2.1
        have d2 : ∀ z, (F z).cell? ⟨w.heap.size + 1, 2, none⟩ = some (.int .i64 fl) := fun z => (hS z).cells.2.2.1
        have d3 : ∀ z, (F z).cell? ⟨w.heap.size + 1, 3, none⟩ = some (.bool uq) := fun z => (hS z).cells.2.2.2.1
        have d4 : ∀ z, (F z).cell? ⟨w.heap.size + 1, 4, none⟩ = some (.bool st) := fun z => (hS z).cells.2.2.2.2
        have hxf : ∀ z, (F z).cell? ⟨bx, ox + k, none⟩ = some (.string ⟨x.toArray⟩) := fun z => up (hBF z) hx
        have hyf : ∀ z, (F z).cell? ⟨bx, ox + (k + 1), none⟩ = some (.string ⟨y.toArray⟩) := fun z => up (hBF z) hy
        have HXF := Lib.hid hX
        have HSF := Lib.hid hS
        have HBF := Lib.hid hBF
        have HBL := Lib.hid hBel
        clear hX hS hBel hBF
        repeat go_big_quiet_step (first
          | (go_at_call 47
             (with_reducible refine (HOK.out _ (HVF.out _) (HKF.out _)).mono ?_)
             rintro e w1 ⟨rfl, hb1⟩
             exact ⟨rfl, hF _ _ hb1⟩))
        refine wpQuiet_nil ?_
        rintro _ ⟨z, rfl⟩
        clear hx hy hxf hyf
        rcases main with hC | ⟨hC, rfl⟩ | ⟨hC, rfl⟩ | ⟨hC, rfl⟩ | ⟨hC, rfl⟩
        · have HB : Hid (U (k + 1) = true) := HUK.out.trans (decide_eq_true (.inl hC))
          have HR : Hid (R = ((k + 1 : Nat) : Int)) := HU.out.trans (first_hit HT.out hlt HB.out)
          go_wp2
          go_ret
          exact ⟨by rw [HR.out]; exact ret_int (by omega), HBL.out z⟩
        · have HB : Hid (U (k + 1) = true) := HUK.out.trans (decide_eq_true (.inr ⟨rfl, hC⟩))
          have HR : Hid (R = ((k + 1 : Nat) : Int)) := HU.out.trans (first_hit HT.out hlt HB.out)
          subst hC
          go_wp2
          go_ret
          exact ⟨by rw [HR.out]; exact ret_int (by omega), HBL.out z⟩
        · have HB : Hid (U (k + 1) = false) := HUK.out.trans (decide_eq_false (by simp [hC]))
          subst hC
          go_wp2
          go_roundw
          case rel => exact ⟨k + 1, by omega, by go_num, HBL.out z, HXF.out z, HSF.out z, fun j hj => by
            by_cases hjk : j = k + 1
            · rw [hjk]; exact HB.out
            · exact HT.out j (by omega)⟩
          case measure => simp [intOf]; omega
        · have HB : Hid (U (k + 1) = false) := HUK.out.trans (decide_eq_false (by simp; omega))
          have hC0 : ¬ 0 < C := by omega
          have hC1 : (C == 0) = false := by
            have : C ≠ 0 := by omega
            simpa using this
          clear hC
          go_wp2
          go_roundw
          case rel => exact ⟨k + 1, by omega, by go_num, HBL.out z, HXF.out z, HSF.out z, fun j hj => by
            by_cases hjk : j = k + 1
            · rw [hjk]; exact HB.out
            · exact HT.out j (by omega)⟩
          case measure => simp [intOf]; omega
        · have HB : Hid (U (k + 1) = false) := HUK.out.trans (decide_eq_false (by simp; omega))
          have hC0 : ¬ 0 < C := by omega
          have hC1 : (C == 0) = false := by
            have : C ≠ 0 := by omega
            simpa using this
          clear hC
          go_wp2
          go_roundw
          case rel => exact ⟨k + 1, by omega, by go_num, HBL.out z, HXF.out z, HSF.out z, fun j hj => by
            by_cases hjk : j = k + 1
            · rw [hjk]; exact HB.out
            · exact HT.out j (by omega)⟩
          case measure => simp [intOf]; omega
      · have hend : k + 1 = ls.length := by omega
        have hkl : ¬ (k : Int) + 1 < (ls.length : Int) := by omega
        have HR : Hid (R = -1) := by
          show _ = _
          rw [HU.out]
          exact first_none fun j hj => HT.out j (by omega)
        clear hca hend
        go_wp2
        go_ret
        exact ⟨by rw [HR.out]; rfl, hbw⟩
end Go.Proofs.YtkekpiillbpciaaGreatDoor.KUnsorted
