/- KRefCmp3; KLocValid2; KMap2: merged into one text: lemmas for the walk of the law. No condition. -/
import Derived.Test.YtkekpiillbpciaaGreatDoorR1
import Derived.Test.YtkekpiillbpciaaGreatDoorR2
import Derived.Deep.RegionWith
import Derived.Laws.CopyOwn
import Derived.OwnWalk
import Derived.Test.YtkekpiillbpciaaGreatDoorM1
/- Comparing strings in the default locale: what the reference's Compare returns. Strings of at most 65536 bytes. -/
namespace Go.Proofs.YtkekpiillbpciaaGreatDoor.KRefCmp
open Go Go.RowKit KeyMath ScanMath KLoc Strs KNum
set_option maxRecDepth 100000
/-- a box into which what it holds is stored once more -/
theorem Box.same {w : World} {b : Nat} {v : Value} (h : Box w b v) : w.setCell ⟨b, 0, none⟩ (.string ⟨#[112, 111, 115, 105, 120]⟩) = w ∧ w.setCell ⟨b, 1, none⟩ v = w ∧ w.setCell ⟨b, 2, none⟩ (.string ⟨lowT.toArray⟩) = w ∧ w.setCell ⟨b, 3, none⟩ (.string ⟨upT.toArray⟩) = w ∧
    w.setCell ⟨b, 4, none⟩ (.slice none 0 0) = w ∧ w.setCell ⟨b, 5, none⟩ (.slice none 0 0) = w ∧ (∀ o, w.frozen? ⟨b, o, none⟩ = false) := by
  unfold Box posix at h
  refine ⟨setCell_self h (o := 0) rfl, setCell_self h (o := 1) rfl, setCell_self h (o := 2) rfl, setCell_self h (o := 3) rfl, setCell_self h (o := 4) rfl, setCell_self h (o := 5) rfl, fun o => ?_⟩
  simp [World.frozen?, h]
theorem Box.cells' {w : World} {b : Nat} {v : Value} (h : Box w b v) : w.cell? ⟨b, 0, none⟩ = some (.string ⟨#[112, 111, 115, 105, 120]⟩) := h.cells.1
theorem below_step {w w1 w2 : World} (h1 : Below w.heap.size w w1) (h2 : Below w1.heap.size w1 w2) : Below w.heap.size w w2 := h1.trans (h2.mono h1.size)
set_option maxHeartbeats 8000000 in
theorem refCompare_any (v : Value) (s t : ByteArray) (w : World) (hv : Wts w v) (hs : s.size ≤ 65536) (ht : t.size ≤ 65536) :
    Calls Tryz.prog 67 #[.agg #[posix, v, .string ⟨lowT.toArray⟩, .string ⟨upT.toArray⟩, .slice none 0 0, .slice none 0 0], .string s, .string t] w fun e w' => e = .returned (.int .i64 (cmp s.data.toList t.data.toList)) ∧ Below w.heap.size w w' := by
  have HK := Lib.hid hv
  have HV := Lib.hid (fun W (hW : Wts W v) => refValid_loc v W hW)
  have HWS := Lib.hid (fun W (hW : Wts W v) => weights_any v s W hW hs)
  have HWT := Lib.hid (fun W (hW : Wts W v) => weights_any v t W hW ht)
  have HBY := Lib.hid (fun W => bytes_any s t W hs ht)
  obtain ⟨g, c, rfl, hgc, hcell⟩ := hv
  clear hcell
  unfold posix at *
  go_enter Tryz.func67, Tryz.ntmps67
  have hb1 : Below w.heap.size w (w.alloc (.cells #[.string ⟨#[112, 111, 115, 105, 120]⟩, .slice (some ⟨g, 0, none⟩) 256 c, .string ⟨lowT.toArray⟩, .string ⟨upT.toArray⟩, .slice none 0 0, .slice none 0 0] 37)) := (Below.refl _ _).alloc (Nat.le_refl _) _
  have hn1 := heap_alloc_new w (.cells #[.string ⟨#[112, 111, 115, 105, 120]⟩, .slice (some ⟨g, 0, none⟩) 256 c, .string ⟨lowT.toArray⟩, .string ⟨upT.toArray⟩, .slice none 0 0, .slice none 0 0] 37)
  have HB1 := Lib.hid hb1
  have HN1 := Lib.hid hn1
  clear hb1 hn1
  go_wp2_with (go_at_call 99; (with_reducible refine (HV.out _ (HK.out.below HB1.out)).mono ?_); rintro e w2 ⟨rfl, hb2⟩; have hbx : Box w2 w.heap.size (.slice (some ⟨g, 0, none⟩) 256 c) := (hb2.block _ (by simp)).trans HN1.out; obtain ⟨-, c1, c2, c3, c4, c5⟩ := hbx.cells; have c0 := hbx.cells'; have hz2 : w.heap.size < w2.heap.size := hbx.lt; obtain ⟨s0, s1, s2, s3, s4, s5, f0⟩ := hbx.same)
  have hbw2 : Below w.heap.size w w2 := HB1.out.trans (hb2.mono HB1.out.size)
  have HW2 := Lib.hid (show Wts w2.drew (.slice (some ⟨g, 0, none⟩) 256 c) from HK.out.below hbw2.drew)
  have HX2 := Lib.hid (show Box w2.drew w.heap.size (.slice (some ⟨g, 0, none⟩) 256 c) from hbx)
  clear hbx
  go_region_with (first
    | (go_at_call_of 101 (Value.string s)
       (with_reducible refine (HWS.out _ (by first | exact HW2.out | exact HW2.out.below hbb)).mono ?_)
       rintro e wa ⟨va, rfl, hra, hba⟩
       have hxa : Box wa w.heap.size (.slice (some ⟨g, 0, none⟩) 256 c) := (by first | exact hxb.out.keep (hba.block _ hxb.out.lt) | exact HX2.out.keep (hba.block _ HX2.out.lt))
       replace hxa := Lib.hid hxa
       obtain ⟨-, d1, d2, d3, d4, d5⟩ := hxa.out.cells
       have d0 := hxa.out.cells')
    | (go_at_call_of 101 (Value.string t)
       (with_reducible refine (HWT.out _ (by first | exact HW2.out | exact HW2.out.below hba)).mono ?_)
       rintro e wb ⟨vb, rfl, hrb, hbb⟩
       have hxb : Box wb w.heap.size (.slice (some ⟨g, 0, none⟩) 256 c) := (by first | exact hxa.out.keep (hbb.block _ hxa.out.lt) | exact HX2.out.keep (hbb.block _ HX2.out.lt))
       replace hxb := Lib.hid hxb
       obtain ⟨-, e1, e2, e3, e4, e5⟩ := hxb.out.cells
       have e0 := hxb.out.cells')
    | (go_at_call 100
       (with_reducible refine (order_any _ _ s.data.toList t.data.toList _ (by first | exact Ints.of_row hra | exact (Ints.of_row hra).below hbb) (by first | exact Ints.of_row hrb | exact (Ints.of_row hrb).below hba)).mono ?_)
       rintro e wo ⟨rfl, no, rfl⟩))
  all_goals
    have hlast := (by first | exact below_step (below_step hbw2.drew hba) hbb | exact below_step (below_step hbw2.drew hbb) hba)
    replace hlast := Lib.hid hlast
    by_cases hz : cmp s.data.toList t.data.toList = 0
    · go_wp2_with (go_at_call 102; (with_reducible refine (HBY.out _).mono ?_); rintro e w5 ⟨rfl, hb5⟩)
      go_ret
      exact ⟨by rw [hz]; rfl, below_step (Base.below_drewN hlast.out _) hb5⟩
    · have hz' : (cmp s.data.toList t.data.toList == 0) = false := by simpa using hz
      go_wp2
      go_ret
      exact ⟨rfl, Base.below_drewN hlast.out _⟩
end Go.Proofs.YtkekpiillbpciaaGreatDoor.KRefCmp

/- The default locale stands for itself: what the program's valid returns, with a copy of the weights. -/
namespace Go.Proofs.YtkekpiillbpciaaGreatDoor.KLoc
open Go Go.RowKit KeyMath Strs KRefCmp
set_option maxRecDepth 100000
theorem row_cur {w : World} {base g n : Nat} {e : TypeId} {xs : List Value} (h : w.ownsRow base e 1 (.slice (some ⟨g, 0, none⟩) n n) n xs) : ∃ cur : List Value, w.heap[g]? = some (.cells cur.toArray e (0, 0)) ∧ cur.length = n := by
  rcases h.2 with ⟨hv, _⟩ | ⟨g', cap, cur, hv, hb, hg, h1, h2, h3, h4⟩
  · cases hv
  · injection hv with e1 e2 e3
    injection e1 with e1
    injection e1 with e1
    subst e1 e3
    exact ⟨cur.toList, by simpa using hg, by simpa using h3⟩
theorem wcells_at {j : Nat} {v : Value} (h : wcells[j]? = some v) : j < 256 ∧ v = .int .i64 (j : Int) := by
  have hl : j < 256 := by
    have := (List.getElem?_eq_some_iff.1 h).1
    simpa [wcells] using this
  refine ⟨hl, ?_⟩
  simp [wcells, hl] at h
  exact h.symm
theorem wcells_length : wcells.length = 256 := by simp [wcells]
theorem wts_row {w : World} {g : Nat} {cur : List Value} {t : TypeId} (h : w.heap[g]? = some (.cells (splice cur 0 wcells).toArray t (0, 0))) : Wts w (.slice (some ⟨g, 0, none⟩) 256 256) := by
  refine ⟨g, 256, rfl, Nat.le_refl _, fun i hi => ?_⟩
  rw [Own.cell_at w g i _ t _ h]
  have hl := wcells_length
  have : (splice cur 0 wcells)[i]? = some (.int .i64 (i : Int)) := by
    unfold splice
    rw [List.take_zero, List.nil_append, List.getElem?_append_left (by omega)]
    simp [wcells, hi]
  simpa using this
theorem wcells_one : ∀ v ∈ wcells, v.oneCell' = true := by
  intro v hv
  obtain ⟨i, _, rfl⟩ := List.mem_map.1 hv
  rfl
theorem Wts.src {w : World} {g c : Nat} (h : Wts w (.slice (some ⟨g, 0, none⟩) 256 c)) : ∀ (j : Nat) v, wcells[j]? = some v → w.cell? ((⟨g, 0, none⟩ : Addr).add j) = some v := by
  obtain ⟨g', c', e, -, hcell⟩ := h
  injection e with e1
  injection e1 with e1
  injection e1 with e1
  subst e1
  intro j v hj
  obtain ⟨hl, rfl⟩ := wcells_at hj
  have hadd : (⟨g, 0, none⟩ : Addr).add j = ⟨g, j, none⟩ := by unfold Addr.add; split <;> simp_all
  rw [hadd]
  exact hcell j hl
theorem box6 {w : World} {b : Nat} {a0 a1 a2 a3 a4 a5 : Value} {t : TypeId} (h : w.heap[b]? = some (.cells #[a0, a1, a2, a3, a4, a5] t (0, 0))) :
    w.cell? ⟨b, 0, none⟩ = some a0 ∧ w.cell? ⟨b, 1, none⟩ = some a1 ∧ w.cell? ⟨b, 2, none⟩ = some a2 ∧ w.cell? ⟨b, 3, none⟩ = some a3 ∧ w.cell? ⟨b, 4, none⟩ = some a4 ∧ w.cell? ⟨b, 5, none⟩ = some a5 ∧ (∀ o, w.frozen? ⟨b, o, none⟩ = false) ∧ b < w.heap.size := by
  refine ⟨?_, ?_, ?_, ?_, ?_, ?_, fun o => by simp [World.frozen?, h], (Array.getElem?_eq_some_iff.1 h).1⟩ <;> (rw [cell_of_row w b _ _ _ _ h]; rfl)
theorem alloc2 (w : World) (o1 o2 : Obj) : ((w.alloc o1).alloc o2).heap[w.heap.size + 1]? = some o2 := by
  have := heap_alloc_new (w.alloc o1) o2
  simpa using this
theorem Wts.set {w : World} {v : Value} (h : Wts w v) {p : Addr} (u : Value) (hp : ∀ g, v.ownBlock = some g → g ≠ p.block) : Wts (w.setCell p u) v := by
  obtain ⟨g, c, rfl, hc, hcell⟩ := h
  refine ⟨g, c, rfl, hc, fun i hi => ?_⟩
  have := hp g rfl
  rw [← hcell i hi]
  exact World.cell?_of_block (Below.heap_setCell _ _ _ _ this)
set_option maxHeartbeats 8000000 in
theorem valid_loc (v : Value) (w : World) (hv : Wts w v) :
    Calls Tryz.prog 85 #[.agg #[posix, v, .string ⟨lowT.toArray⟩, .string ⟨upT.toArray⟩, .slice none 0 0, .slice none 0 0]] w fun e w' => ∃ v', e = .returned (.agg #[posix, v', .string ⟨lowT.toArray⟩, .string ⟨upT.toArray⟩, .slice none 0 0, .slice none 0 0]) ∧ Wts w' v' ∧ Below w.heap.size w w' := by
  obtain ⟨i0, hi, hz0, hz1, hz2⟩ := info_parts int_info
  have HC := Lib.hid (fun W (hW : Wts W v) => check_loc v W hW)
  have HK := Lib.hid hv
  obtain ⟨g, c, rfl, hgc, hcell⟩ := hv
  clear hcell
  go_enter Tryz.func85, Tryz.ntmps85
  unfold posix at *
  go_wp2_with (first
    | (go_at_call 132
       (with_reducible refine (HC.out _ (HK.out.below (((Below.refl _ _).alloc (Nat.le_refl _) _).alloc (by simp) _))).mono ?_)
       rintro e w2 ⟨rfl, hb2⟩
       have hz2 : w.heap.size + 1 < w2.heap.size := (by have := hb2.size; simp at this; omega)
       have hbw2 := Lib.hid ((((Below.refl w.heap.size w).alloc (Nat.le_refl _) _).alloc (by simp) _).trans (hb2.mono (by simp; omega)))
       have hbx2 : Box w2 w.heap.size (.slice (some ⟨g, 0, none⟩) 256 c) := (hb2.block _ (by simp; omega)).trans ((Below.heap_alloc _ _ _ (by simp)).trans (heap_alloc_new w _))
       have hrt2 := (hb2.block (w.heap.size + 1) (by simp)).trans (alloc2 w _ _)
       replace hbx2 := Lib.hid hbx2
       replace hrt2 := Lib.hid hrt2
       clear hb2)
    | (at_make
       refine wpList_make_full _ rfl _ _ _ rfl (w.heap.size + 2) 3 i0 _ 1 Tryz.underlying33 hi hz0 hz1 .i64 .i64 _ _ 256 rfl rfl rfl rfl (by omega) (by unfold maxLen; omega) (by omega) ?_
       intro w3 hrow hg3
       obtain ⟨cur, hcur, hcl⟩ := row_cur hrow
       have hb3 : Below w2.heap.size w2 w3 := (Below.refl _ _).grown hg3 (Nat.le_refl _) (fun z hz => by cases hz)
       have HS := Lib.hid (Wts.src (HK.out.below (hbw2.out.trans (hb3.mono hbw2.out.size))))
       obtain ⟨-, c1, -⟩ := box6 ((hb3.block _ (by omega)).trans hbx2.out)
       replace hcur := Lib.hid hcur
       clear hrow hg3)
    | (refine wpList_copy_splice rfl _ _ _ _ rfl 3 Tryz.underlying33 (by kernel_rfl) _ _ _ _ _ _ rfl rfl w2.heap.size 0 cur 3 hcur.out wcells wcells_length (fun _ => ⟨rfl, ⟨g, 0, none⟩, rfl, HS.out⟩) (by have := wcells_length; omega) wcells_one w2.heap.size w2 hb3 (Nat.le_refl _) ?_
       intro w4 HG4 hb4
       clear c1
       obtain ⟨d0, d1, d2, d3, d4, d5, df, dl⟩ := box6 ((hb4.block _ (by omega)).trans hbx2.out)
       unfold posix at d0
       obtain ⟨e0, e1, e2, e3, e4, e5, ef, el⟩ := box6 ((hb4.block (w.heap.size + 1) (by omega)).trans hrt2.out)
       have hw4 := Lib.hid (wts_row HG4.out)))
  refine bodyPost_ret (v := .agg #[.string ⟨#[112, 111, 115, 105, 120]⟩, .slice (some ⟨w2.heap.size, 0, none⟩) 256 256, .string ⟨lowT.toArray⟩, .string ⟨upT.toArray⟩, .slice none 0 0, .slice none 0 0]) ?_ rfl ⟨_, rfl, ?_, ?_⟩
  · simp [results, Tryz.results85, go_sem, el, dl, e0, e1, e2, e3, e4, e5]
  · refine Wts.set (Wts.set (Wts.set (Wts.set (Wts.set (Wts.set (Wts.set hw4.out _ ?_) _ ?_) _ ?_) _ ?_) _ ?_) _ ?_) _ ?_ <;> (intro z hz; simp [Value.ownBlock] at hz; subst hz; simp; omega)
  · exact ((((((((hbw2.out.trans (hb4.mono hbw2.out.size)).setCell (by simp) _).setCell (by simp) _).setCell (by simp) _).setCell (by simp) _).setCell (by simp) _).setCell (by simp) _).setCell (by simp) _)
end Go.Proofs.YtkekpiillbpciaaGreatDoor.KLoc

/- Capital letters in the default locale: what the program's mapped and Upper return. Strings of at most 65536 bytes. -/
namespace Go.Proofs.YtkekpiillbpciaaGreatDoor.KMap
open Go Go.RowKit KeyMath ScanMath KLoc Strs KNum
set_option maxRecDepth 100000
theorem row_form {w : World} {base g n : Nat} {e : TypeId} {v : Value} {xs : List Value} (h : Own.Row w base e 1 v n xs) (hg : v.ownBlock = some g) : ∃ c, v = .slice (some ⟨g, 0, none⟩) n c ∧ n ≤ c ∧ c ≤ maxLen := by
  rcases h.2 with ⟨rfl, _⟩ | ⟨g', cap, cur, fz, rfl, hb, hg2, h1, h2, h3, -⟩
  · simp [Value.ownBlock] at hg
  · simp [Value.ownBlock] at hg
    subst hg
    exact ⟨cap, rfl, h2, h3⟩
theorem row_at {w : World} {base g n c : Nat} {e : TypeId} {xs : List Value} (h : Own.Row w base e 1 (.slice (some ⟨g, 0, none⟩) n c) n xs) {k : Nat} (hk : k < n) :
    (∀ u, xs[k]? = some u → w.cell? ⟨g, k, none⟩ = some u) ∧ w.frozen? ⟨g, k, none⟩ = false := by
  obtain ⟨g', cap, e1, -, -, -, h1, h2⟩ := h.here (by omega)
  injection e1 with e1 e2 e3
  injection e1 with e1
  injection e1 with e1
  subst e1
  exact ⟨h1 k, h2 k (by omega)⟩
/-- the bytes of which the first k are mapped -/
def mid (l : List UInt8) (k : Nat) : List UInt8 := (l.take k).map upc ++ l.drop k
theorem mid_at {l : List UInt8} {k : Nat} {x : UInt8} (h : l[k]? = some x) : (Own.byteCells (mid l k))[k]? = some (.int .u8 (x.toNat : Int)) := by
  have hl := (List.getElem?_eq_some_iff.1 h).1
  unfold Own.byteCells mid
  rw [List.getElem?_map, List.getElem?_append_right (by simp; omega)]
  simp [Nat.min_eq_left (Nat.le_of_lt hl), h]
theorem mid_set {l : List UInt8} {k : Nat} {x : UInt8} (h : l[k]? = some x) : (Own.byteCells (mid l k)).set k (.int .u8 ((upc x).toNat : Int)) = Own.byteCells (mid l (k + 1)) := by
  have hl := (List.getElem?_eq_some_iff.1 h).1
  unfold Own.byteCells mid
  rw [show (Value.int .u8 ((upc x).toNat : Int)) = (fun b : UInt8 => Value.int .u8 (b.toNat : Int)) (upc x) from rfl, ← List.map_set]
  congr 1
  rw [List.set_append_right _ _ (by simp; omega)]
  have e1 : k - ((l.take k).map upc).length = 0 := by simp; omega
  rw [e1, List.drop_eq_getElem_cons hl, List.set_cons_zero, List.take_add_one, h]
  simp
theorem mid_zero (l : List UInt8) : mid l 0 = l := by simp [mid]
theorem mid_all {l : List UInt8} {n : Nat} (h : l.length = n) : mid l n = l.map upc := by
  subst h
  simp [mid]
set_option maxHeartbeats 4000000 in
theorem mapped_any (s : ByteArray) (w : World) (hs : s.size ≤ 65536) :
    Calls Tryz.prog 144 #[.string ⟨upT.toArray⟩, .string s] w fun e w' => e = .returned (.string ⟨(s.data.toList.map upc).toArray⟩) ∧ Below w.heap.size w w' := by
  have hss : s.data.toList.length = s.size := len_eq s
  have HU := Lib.hid index_up
  obtain ⟨v0, w0, hr0, hrow0, hb0, hob⟩ := Own.run_bytes (P := Tryz.prog) w 9 69 5 s Tryz.underlying9 Tryz.underlying69 Tryz.underlying5 (by unfold maxLen; omega)
  obtain ⟨c, rfl, hc1, hc2⟩ := row_form hrow0 hob
  have HR0 := Lib.hid hrow0
  clear hrow0 hob
  go_enter Tryz.func144, Tryz.ntmps144
  go_wp2
  go_loopw [6, 11] (fun _ t wr => ∃ k : Nat, k ≤ s.size ∧ t = .int .i64 k ∧ Own.Row wr w.heap.size 5 1 (.slice (some ⟨w.heap.size, 0, none⟩) s.size c) s.size (Own.byteCells (mid s.data.toList k)) ∧ Below w.heap.size w wr) (fun _ t _ => s.size - (intOf t).toNat)
  case atStart => exact ⟨0, Nat.zero_le _, rfl, by rw [mid_zero]; exact HR0.out, hb0⟩
  case round =>
    obtain ⟨k, hk, rfl, hrow, hb⟩ := hrel
    by_cases hlt : k < s.size
    · have hx := Lib.hid (at_some s hlt)
      have hlt' : (k : Int) < (s.size : Int) := by omega
      obtain ⟨hcell, hfz⟩ := row_at hrow hlt
      replace hcell := hcell _ (mid_at hx.out)
      have hix := HU.out s[k]
      have HR := Lib.hid hrow
      clear hrow
      go_wp2
      go_roundw
      case rel =>
        refine ⟨k + 1, by omega, by go_num, ?_, hb.setCell (Nat.le_refl _) _⟩
        have := Own.Row.setCell HR.out k (.int .u8 ((upc s[k]).toNat : Int))
        rw [mid_set hx.out] at this
        exact this
      case measure => simp [intOf]; omega
    · obtain rfl : k = s.size := by omega
      rw [mid_all hss] at hrow
      have hrc := hrow.run_str (P := Tryz.prog) 69 9 Tryz.underlying69 Tryz.underlying5 Tryz.underlying9
      clear hrow
      go_wp2
      go_ret
      exact ⟨rfl, hb⟩
set_option maxHeartbeats 4000000 in
theorem upper_any (v : Value) (s : ByteArray) (w : World) (hv : Wts w v) (hs : s.size ≤ 65536) :
    Calls Tryz.prog 97 #[.agg #[posix, v, .string ⟨lowT.toArray⟩, .string ⟨upT.toArray⟩, .slice none 0 0, .slice none 0 0], .string s] w fun e w' => e = .returned (.string ⟨(s.data.toList.map upc).toArray⟩) ∧ Below w.heap.size w w' := by
  have HK := Lib.hid hv
  have HV := Lib.hid (fun W (hW : Wts W v) => valid_loc v W hW)
  have HM := Lib.hid (fun W => mapped_any s W hs)
  obtain ⟨g, c, rfl, hgc, hcell⟩ := hv
  clear hcell
  unfold posix at *
  have hfl := fun v' W => field_up (.string ⟨#[112, 111, 115, 105, 120]⟩) v' (.string ⟨lowT.toArray⟩) (.string ⟨upT.toArray⟩) (.slice none 0 0) (.slice none 0 0) W
  go_enter Tryz.func97, Tryz.ntmps97
  go_wp2_with (first
    | (go_at_call 85; (with_reducible refine (HV.out _ (HK.out.below ((Below.refl _ _).alloc (Nat.le_refl _) _))).mono ?_); rintro e w2 ⟨v', rfl, -, hb2⟩)
    | (go_at_call 144; (with_reducible refine (HM.out _).mono ?_); rintro e w3 ⟨rfl, hb3⟩))
  go_ret
  exact ⟨rfl, (((Below.refl _ _).alloc (Nat.le_refl _) _).trans (hb2.mono (by simp))).trans (hb3.mono (by have := hb2.size; simp at this; omega))⟩
end Go.Proofs.YtkekpiillbpciaaGreatDoor.KMap
