/- KExcess; KIndex; KLost: merged into one text: lemmas for the walk of the law. No condition. -/
import Derived.Test.YtkekpiillbpciaaGreatDoorR11
import Derived.Test.YtkekpiillbpciaaGreatDoorR16
import Derived.Maps.Own
import Derived.Maps.OwnOps
import Derived.Test.YtkekpiillbpciaaGreatDoorR17
/- The first line that is there too often: what the program's excess returns. At most 65536 lines of at most 65536 bytes. -/
namespace Go.Proofs.YtkekpiillbpciaaGreatDoor.KExcess
open Go Go.RowKit Go.Maps Go.WideMaps KeyMath Strs KNum KMerge
set_option maxRecDepth 100000
theorem law : Keyed Tryz.prog 9 := string_keyed Tryz.underlying9
theorem zeroE (w : World) : (zeroValue 3).run Tryz.prog w = .ok (.int .i64 0) w := by kernel_rfl
/-- the map says of every string how often it is there -/
def Cnt (D : DataW Unit) (f : Str → Int) : Prop := IsMap D ∧ ∀ x : Str, D.atKey (.string x) (.lit (.int .i64 0)) = .lit (.int .i64 (f x))
theorem Cnt.nil : Cnt (.map []) fun _ => 0 := ⟨isMap_empty, fun _ => rfl⟩
theorem Cnt.put {D : DataW Unit} {f g : Str → Int} (h : Cnt D f) (x : Str) (z : Int) (hz : g x = z) (ho : ∀ y, y ≠ x → g y = f y) : Cnt (D.put (.string x) (.lit (.int .i64 z))) g := by
  refine ⟨h.1.put _ _, fun y => ?_⟩
  by_cases e : y = x
  · subst e
    rw [atKey_put_same h.1 (show WideAt.IsKeyLit (.string y) from trivial), hz]
  · have hne : (Lit.string y) ≠ .string x := by intro h; injection h with h; exact e h
    rw [atKey_put_other hne, h.2 y, ho y e]
theorem key_of (x : Str) (h : x.length ≤ 65536) : keyOf Tryz.prog 9 (.string ⟨x.toArray⟩) = some (.string x) := by
  simpa using keyOf_string_mk (P := Tryz.prog) Tryz.underlying9 (s := ⟨x.toArray⟩) (by simp [ByteArray.size]; unfold maxLen; omega)
theorem count_le {l : List Str} (k : Nat) (x : Str) : (l.take k).count x ≤ l.length := Nat.le_trans (List.count_le_length) (by rw [List.length_take]; omega)
set_option maxHeartbeats 8000000 in
theorem excess_any (a b : Value) (xs ys : List Str) (w : World) (hx : xs.length ≤ 65536) (hy : ys.length ≤ 65536) (hfx : Fit xs) (hfy : Fit ys) (ha : Strs w a xs) (hb : Strs w b ys) :
    Calls Tryz.prog 16 #[a, b] w fun e w' => e = .returned (.int .i64 (extra xs ys)) ∧ Below w.heap.size w w' := by
  obtain ⟨aa, ca, rfl, hma0, hca⟩ := ha
  obtain ⟨ab, cb, rfl, hmb0, hcb⟩ := hb
  have HFX := Lib.hid hfx
  have HFY := Lib.hid hfy
  have HLAW := Lib.hid law
  clear hma0 hmb0 hfx hfy
  have hmm := @run_makeMap Tryz.prog
  go_enter Tryz.func16, Tryz.ntmps16
  go_wp2
  go_loopw [13] (fun i wr => ∃ k : Nat, k ≤ ys.length ∧ i = .int .i64 k ∧ (∃ D, wr.ownsMap Tryz.prog 9 (plainElem Tryz.prog 3) w.heap.size k D ∧ Hid (Cnt D fun x => (((ys.take k).count x : Nat) : Int))) ∧ Below w.heap.size w wr) (fun i _ => ys.length - (intOf i).toNat)
  case atStart => exact ⟨0, Nat.zero_le _, rfl, ⟨.map [], World.ownsMap_made _ _ _ _, Cnt.nil⟩, (Below.refl _ _).alloc (Nat.le_refl _) _⟩
  case round =>
    obtain ⟨k, hk, rfl, ⟨D, hmap, HD⟩, hbw⟩ := hrel
    by_cases hlt : k < ys.length
    · have hkl : (k : Int) < (ys.length : Int) := by omega
      obtain ⟨bx, ox, rfl, hcx⟩ := hcb (by intro e; subst e; simp at hlt)
      have hys : ys[k]? = some ys[k] := List.getElem?_eq_getElem hlt
      have hy1 := up hbw (hcx k _ hys)
      have HYS := Lib.hid hys
      have HYL := Lib.hid (HFY.out _ (List.getElem_mem hlt))
      clear hys hca hcb hcx
      generalize ys[k] = y at *
      have hkey := Lib.hid (key_of y HYL.out)
      have HC := Lib.hid (fun (z : Int) (hz : z = ((ys.take k).count y : Int)) => HD.out.put y (z + 1) (g := fun x => (((ys.take (k + 1)).count x : Nat) : Int)) (by rw [KCount.count_yes HYS.out]; omega) (fun u hu => by rw [KCount.count_no HYS.out (Ne.symm hu)]))
      have hcl := count_le (l := ys) k y
      go_wp2_with (first
        | (at_lookup
           refine wpList_lookup_own_int _ rfl _ _ 84 rfl 9 3 .i64 law Tryz.underlying84 Tryz.underlying3 (zeroE _) w.heap.size k D rfl hmap _ _ rfl hkey.out ?_
           intro c hat hwc
           rw [HD.out.2] at hat
           have hce : (((ys.take k).count y : Nat) : Int) = c := by injection hat with hat; injection hat
           have HCE := Lib.hid hce
           have hc0 : 0 ≤ c := by omega
           have hc1 : c ≤ 65536 := by omega
           clear hat hwc hce)
        | (at_mapUpdate
           refine wpList_mapUpdate_own _ rfl _ _ _ 84 rfl 9 3 law Tryz.underlying84 _ w.heap.size k _ rfl hmap (by unfold maxLen; omega) _ _ _ rfl rfl hkey.out _ [] (plainElem_int Tryz.underlying3 (WalkArith.wf_i64 (by omega))) ?_
           intro w1 hmap1 hg1))
      go_roundw
      case rel => exact ⟨k + 1, by omega, by go_num, ⟨_, hmap1, HC.out c HCE.out.symm⟩, hbw.grown hg1 hbw.size (fun j hj => by cases hj; exact Nat.le_refl _)⟩
      case measure => simp [intOf]; omega
    · obtain rfl : k = ys.length := by omega
      have HD0 : Hid (Cnt D fun x => ((ys.count x : Nat) : Int)) := by
        have := HD.out
        rw [List.take_length] at this
        exact this
      clear HD hcb
      go_wp2
      go_loopw [24] (fun i wr => ∃ k : Nat, k ≤ xs.length ∧ i = .int .i64 k ∧ (∃ D n, n ≤ ys.length + k ∧ wr.ownsMap Tryz.prog 9 (plainElem Tryz.prog 3) w.heap.size n D ∧ Hid (Cnt D fun x => ((ys.count x : Nat) : Int) - (((xs.take k).count x : Nat) : Int))) ∧ Below w.heap.size w wr ∧ Hid (∀ j, j < k → KCount.exF xs ys j = false)) (fun i _ => xs.length - (intOf i).toNat)
      case atStart => exact ⟨0, Nat.zero_le _, rfl, ⟨D, ys.length, Nat.le_refl _, hmap, by show Cnt _ _; simpa using HD0.out⟩, hbw, fun j hj => absurd hj (Nat.not_lt_zero _)⟩
      case round =>
        clear hmap hbw HD0
        obtain ⟨k, hk, rfl, ⟨D, n, hn, hmap, HD⟩, hbw, HT⟩ := hrel
        by_cases hlt : k < xs.length
        · have hkl : (k : Int) < (xs.length : Int) := by omega
          obtain ⟨bx, ox, rfl, hcx⟩ := hca (by intro e; subst e; simp at hlt)
          have hxs : xs[k]? = some xs[k] := List.getElem?_eq_getElem hlt
          have hx1 := up hbw (hcx k _ hxs)
          have HXS := Lib.hid hxs
          have HXL := Lib.hid (HFX.out _ (List.getElem_mem hlt))
          have HF := Lib.hid (KCount.exF_at (o := ys) hxs)
          clear hxs hca hcx
          generalize xs[k] = y at *
          have hkey := Lib.hid (key_of y HXL.out)
          have HC := Lib.hid (fun (z : Int) (hz : z = ((ys.count y : Nat) : Int) - (((xs.take k).count y : Nat) : Int)) => HD.out.put y (z - 1) (g := fun x => ((ys.count x : Nat) : Int) - (((xs.take (k + 1)).count x : Nat) : Int)) (by rw [KCount.count_yes HXS.out]; omega) (fun u hu => by rw [KCount.count_no HXS.out (Ne.symm hu)]))
          have hcl := count_le (l := xs) k y
          have hcm : ys.count y ≤ ys.length := List.count_le_length
          have HCY := Lib.hid (KCount.count_yes HXS.out)
          rw [HCY.out] at HF
          clear HCY
          go_wp2_with (first
            | (at_lookup
               refine wpList_lookup_own_int _ rfl _ _ 84 rfl 9 3 .i64 law Tryz.underlying84 Tryz.underlying3 (zeroE _) w.heap.size n D rfl hmap _ _ rfl hkey.out ?_
               intro c hat hwc
               rw [HD.out.2] at hat
               have hce : ((ys.count y : Nat) : Int) - (((xs.take k).count y : Nat) : Int) = c := by injection hat with hat; injection hat
               have HCE := Lib.hid hce
               have hc0 : -65536 ≤ c := by omega
               have hc1 : c ≤ 65536 := by omega
               clear hat hwc hce)
            | (at_mapUpdate
               refine wpList_mapUpdate_own _ rfl _ _ _ 84 rfl 9 3 law Tryz.underlying84 _ w.heap.size n _ rfl hmap (by unfold maxLen; omega) _ _ _ rfl rfl hkey.out _ [] (plainElem_int Tryz.underlying3 (WalkArith.wf_i64 (by omega))) ?_
               intro w1 hmap1 hg1
               have HC1 := Lib.hid (HC.out c HCE.out.symm)
               have HG1 := Lib.hid hg1
               clear hg1)
            | (at_lookup
               refine wpList_lookup_own_int _ rfl _ _ 84 rfl 9 3 .i64 law Tryz.underlying84 Tryz.underlying3 (zeroE _) w.heap.size (n + 1) _ rfl hmap1 _ _ rfl hkey.out ?_
               intro c2 hat hwc
               rw [HC1.out.2] at hat
               have HCE2 : Hid (((ys.count y : Nat) : Int) - (((xs.take (k + 1)).count y : Nat) : Int) = c2) := (by injection hat with hat; injection hat)
               clear hat hwc))
          all_goals
            first
            | (have hc : c2 < 0 := by assumption
               have HB : Hid (KCount.exF xs ys k = true) := by
                 show _ = _
                 rw [HF.out]
                 have := HCE2.out
                 rw [KCount.count_yes HXS.out] at this
                 exact decide_eq_true (by omega)
               have HR : Hid (extra xs ys = (k : Int)) := by show _ = _; rw [KCount.extra_eq]; exact first_hit HT.out hlt HB.out
               go_ret
               exact ⟨by rw [HR.out]; rfl, hbw.grown HG1.out hbw.size (fun j hj => by cases hj; exact Nat.le_refl _)⟩)
            | (have hc : 0 ≤ c2 := by assumption
               have HB : Hid (KCount.exF xs ys k = false) := by
                 show _ = _
                 rw [HF.out]
                 have := HCE2.out
                 rw [KCount.count_yes HXS.out] at this
                 exact decide_eq_false (by omega)
               go_roundw
               case rel => exact ⟨k + 1, by omega, by go_num, ⟨_, n + 1, by omega, hmap1, HC1.out⟩, hbw.grown HG1.out hbw.size (fun j hj => by cases hj; exact Nat.le_refl _), fun j hj => by
                 by_cases hjk : j = k
                 · rw [hjk]; exact HB.out
                 · exact HT.out j (by omega)⟩
               case measure => simp [intOf]; omega)

        · obtain rfl : k = xs.length := by omega
          have HR : Hid (extra xs ys = -1) := by show _ = _; rw [KCount.extra_eq]; exact first_none HT.out
          clear hca
          go_wp2
          go_ret
          exact ⟨by rw [HR.out]; rfl, hbw⟩
end Go.Proofs.YtkekpiillbpciaaGreatDoor.KExcess

/- The first line that is equal to no other one: what IndexFunc, ContainsFunc and the program's missing return. At most 65536 lines of at most 65536 bytes. -/
namespace Go.Proofs.YtkekpiillbpciaaGreatDoor.KIndex
open Go Go.RowKit KeyMath KeyVals ScanMath Strs KLoc KRefCmp KSpec KEnv SortMath KMerge
set_option maxRecDepth 100000
def at1 (q : Str → Bool) (l : List Str) (k : Nat) : Bool := match l[k]? with | none => false | some s => q s
theorem at1_at (q : Str → Bool) {l : List Str} {k : Nat} {x : Str} (h : l[k]? = some x) : at1 q l k = q x := by unfold at1; rw [h]
/-- the first line of which something holds -/
def idx (q : Str → Bool) (l : List Str) : Int := firstAt (at1 q l) l.length
theorem idx_eq (q : Str → Bool) (l : List Str) : idx q l = firstAt (at1 q l) l.length := rfl
theorem firstFrom_range (f : Nat → Bool) : ∀ (n i : Nat), (∀ j, i ≤ j → j < i + n → f j = false) ∧ firstFrom f n i = -1 ∨ ∃ j, i ≤ j ∧ j < i + n ∧ f j = true ∧ firstFrom f n i = (j : Int)
  | 0, i => .inl ⟨fun j h1 h2 => by omega, rfl⟩
  | n + 1, i => by
    unfold firstFrom
    by_cases h : f i = true
    · rw [if_pos h]
      exact .inr ⟨i, Nat.le_refl _, by omega, h, rfl⟩
    · rw [if_neg h]
      rcases firstFrom_range f n (i + 1) with ⟨h1, h2⟩ | ⟨j, h1, h2, h3, h4⟩
      · refine .inl ⟨fun j hj hj2 => ?_, h2⟩
        by_cases hji : j = i
        · rw [hji]; simpa using h
        · exact h1 j (by omega) (by omega)
      · exact .inr ⟨j, by omega, by omega, h3, h4⟩
theorem idx_any (q : Str → Bool) (l : List Str) : decide (0 ≤ idx q l) = l.any q := by
  rcases firstFrom_range (at1 q l) l.length 0 with ⟨h1, h2⟩ | ⟨j, h1, h2, h3, h4⟩
  · rw [show idx q l = -1 from h2]
    have : l.any q = false := by
      rw [List.any_eq_false]
      intro x hx
      obtain ⟨k, hk, rfl⟩ := List.getElem_of_mem hx
      have := h1 k (Nat.zero_le _) (by omega)
      rw [at1_at q (List.getElem?_eq_getElem hk)] at this
      simp [this]
    rw [this]
    rfl
  · rw [show idx q l = (j : Int) from h4]
    have hj : j < l.length := by omega
    rw [at1_at q (List.getElem?_eq_getElem hj)] at h3
    have : l.any q = true := List.any_eq_true.2 ⟨_, List.getElem_mem hj, h3⟩
    rw [this]
    exact decide_eq_true (by omega)
theorem lost_eq (p : SortSpec) (l o : List Str) : lost p l o = idx (fun s => !(o.any fun t => KeyMath.compare p s t == 0)) l := rfl
/-- a line in a block of its own -/
def SB1 (w : World) (b : Nat) (x : Str) : Prop := w.heap[b]? = some (.cells #[.string ⟨x.toArray⟩] 9 (0, 0))
theorem SB1.cell {w : World} {b : Nat} {x : Str} (h : SB1 w b x) : w.cell? ⟨b, 0, none⟩ = some (.string ⟨x.toArray⟩) := by rw [cell_of_row w b _ _ _ _ h]; rfl
theorem SB1.lt {w : World} {b : Nat} {x : Str} (h : SB1 w b x) : b < w.heap.size := (Array.getElem?_eq_some_iff.1 h).1
/-- a slice of lines in a block of its own -/
def LB1 (w : World) (b : Nat) (v : Value) : Prop := w.heap[b]? = some (.cells #[v] 25 (0, 0))
theorem LB1.cell {w : World} {b : Nat} {v : Value} (h : LB1 w b v) : w.cell? ⟨b, 0, none⟩ = some v := by rw [cell_of_row w b _ _ _ _ h]; rfl
theorem LB1.lt {w : World} {b : Nat} {v : Value} (h : LB1 w b v) : b < w.heap.size := (Array.getElem?_eq_some_iff.1 h).1
set_option maxHeartbeats 4000000 in
theorem eq1_any (bl bp bs : Nat) (v sv : Value) (p : SortSpec) (x y : Str) (w : World) (he : Env w bl bp v sv p) (hs : SB1 w bs x) (h0 : check p = 0) (hx : x.length ≤ 65536) (hy : y.length ≤ 65536) :
    Calls Tryz.prog 39 #[.string ⟨y.toArray⟩, .pointer (some ⟨bl, 0, none⟩), .pointer (some ⟨bp, 0, none⟩), .pointer (some ⟨bs, 0, none⟩)] w fun e w' => e = .returned (.bool (KeyMath.compare p x y == 0)) ∧ Below w.heap.size w w' := by
  have HO := Lib.hid (fun W hW hK => cmp_any v sv p x y W hW hK h0 hx hy)
  have HE := Lib.hid he
  obtain ⟨-, c1, c2, c3, c4, c5⟩ := he.box.cells
  have c0 := he.box.cells'
  obtain ⟨d0, d1, d2, d3, d4⟩ := he.spec.cells
  have l1 := he.box.lt
  have l2 := he.spec.lt
  have s0 := hs.cell
  have l3 := hs.lt
  clear hs
  obtain ⟨⟨g, c, rfl, hgc, hcell⟩, ⟨a, kc, rfl, -⟩, -, -⟩ := he
  clear hcell
  unfold posix specVal at *
  generalize KeyMath.compare p x y = C at *
  go_enter Tryz.func39, Tryz.ntmps39
  go_wp2_with (go_at_call 40; (with_reducible refine (HO.out _ HE.out.wts HE.out.keys).mono ?_); rintro e w2 ⟨rfl, hb2⟩)
  go_ret
  exact ⟨rfl, hb2⟩
theorem alloc3 (w : World) (o1 o2 o3 : Obj) : (((w.alloc o1).alloc o2).alloc o3).heap[w.heap.size + 2]? = some o3 := by
  have := heap_alloc_new ((w.alloc o1).alloc o2) o3
  simpa using this
set_option maxHeartbeats 4000000 in
theorem index1_any (b1 b2 b3 : Nat) (q : Str → Bool) (ls : List Str) (a : Value) (w : World) (hfit : Fit ls) (ha : Strs w a ls)
    (hq : ∀ (x : Str) (W : World), x.length ≤ 65536 → Below w.heap.size w W → Calls Tryz.prog 39 #[.string ⟨x.toArray⟩, .pointer (some ⟨b1, 0, none⟩), .pointer (some ⟨b2, 0, none⟩), .pointer (some ⟨b3, 0, none⟩)] W fun e w' => e = .returned (.bool (q x)) ∧ Below W.heap.size W w') :
    Calls Tryz.prog 36 #[a, .func (.func 39) #[] #[.pointer (some ⟨b1, 0, none⟩), .pointer (some ⟨b2, 0, none⟩), .pointer (some ⟨b3, 0, none⟩)]] w fun e w' => e = .returned (.int .i64 (idx q ls)) ∧ Below w.heap.size w w' := by
  have HQ := Lib.hid hq
  have HF := Lib.hid hfit
  have HI := Lib.hid (idx_eq q ls)
  obtain ⟨aa, ca, rfl, hma0, hca⟩ := ha
  have hma : ls.length ≤ 2 ^ 63 - 1 := Nat.le_trans hma0.1 hma0.2
  clear hma0 hfit hq
  generalize idx q ls = R at *
  go_enter Tryz.func36, Tryz.ntmps36
  go_wp2
  go_loopw [8] (fun i wr => ∃ k : Nat, k ≤ ls.length ∧ i = .int .i64 k ∧ Below w.heap.size w wr ∧ Hid (∀ j, j < k → at1 q ls j = false)) (fun i _ => ls.length - (intOf i).toNat)
  case atStart => exact ⟨0, Nat.zero_le _, rfl, Below.refl _ _, fun j hj => absurd hj (Nat.not_lt_zero _)⟩
  case round =>
    obtain ⟨k, hk, rfl, hbw, HT⟩ := hrel
    by_cases hlt : k < ls.length
    · have hkl : (k : Int) < (ls.length : Int) := by omega
      obtain ⟨bx, ox, rfl, hcx⟩ := hca (by intro e; subst e; simp at hlt)
      have hxs : ls[k]? = some ls[k] := List.getElem?_eq_getElem hlt
      have hx := up hbw (hcx k _ hxs)
      have HXL := Lib.hid (HF.out _ (List.getElem_mem hlt))
      have HA1 := Lib.hid (at1_at q hxs)
      clear hxs hca hcx
      generalize ls[k] = x at *
      have HQX := Lib.hid (HQ.out x wr HXL.out hbw)
      have hws := hbw.size
      rcases hqx : q x with _ | _
      · rw [hqx] at HQX HA1
        go_wp2_with (go_at_call 39; (with_reducible refine HQX.out.mono ?_); rintro e w2 ⟨rfl, hb2⟩)
        go_roundw
        case rel => exact ⟨k + 1, by omega, by go_num, hbw.trans (hb2.mono hws), fun j hj => by
          by_cases hjk : j = k
          · rw [hjk]; exact HA1.out
          · exact HT.out j (by omega)⟩
        case measure => simp [intOf]; omega
      · rw [hqx] at HQX HA1
        have HR : Hid (R = (k : Int)) := HI.out.trans (first_hit HT.out hlt HA1.out)
        go_wp2_with (go_at_call 39; (with_reducible refine HQX.out.mono ?_); rintro e w2 ⟨rfl, hb2⟩)
        go_ret
        exact ⟨by rw [HR.out]; rfl, hbw.trans (hb2.mono hws)⟩
    · obtain rfl : k = ls.length := by omega
      have HR : Hid (R = -1) := HI.out.trans (first_none HT.out)
      clear hca
      go_wp2
      go_ret
      exact ⟨by rw [HR.out]; rfl, hbw⟩
set_option maxHeartbeats 4000000 in
theorem index2_any (b1 b2 b3 : Nat) (q : Str → Bool) (ls : List Str) (a : Value) (w : World) (hfit : Fit ls) (ha : Strs w a ls)
    (hq : ∀ (x : Str) (W : World), x.length ≤ 65536 → Below w.heap.size w W → Calls Tryz.prog 37 #[.string ⟨x.toArray⟩, .pointer (some ⟨b1, 0, none⟩), .pointer (some ⟨b2, 0, none⟩), .pointer (some ⟨b3, 0, none⟩)] W fun e w' => e = .returned (.bool (q x)) ∧ Below W.heap.size W w') :
    Calls Tryz.prog 36 #[a, .func (.func 37) #[] #[.pointer (some ⟨b1, 0, none⟩), .pointer (some ⟨b2, 0, none⟩), .pointer (some ⟨b3, 0, none⟩)]] w fun e w' => e = .returned (.int .i64 (idx q ls)) ∧ Below w.heap.size w w' := by
  have HQ := Lib.hid hq
  have HF := Lib.hid hfit
  have HI := Lib.hid (idx_eq q ls)
  obtain ⟨aa, ca, rfl, hma0, hca⟩ := ha
  have hma : ls.length ≤ 2 ^ 63 - 1 := Nat.le_trans hma0.1 hma0.2
  clear hma0 hfit hq
  generalize idx q ls = R at *
  go_enter Tryz.func36, Tryz.ntmps36
  go_wp2
  go_loopw [8] (fun i wr => ∃ k : Nat, k ≤ ls.length ∧ i = .int .i64 k ∧ Below w.heap.size w wr ∧ Hid (∀ j, j < k → at1 q ls j = false)) (fun i _ => ls.length - (intOf i).toNat)
  case atStart => exact ⟨0, Nat.zero_le _, rfl, Below.refl _ _, fun j hj => absurd hj (Nat.not_lt_zero _)⟩
  case round =>
    obtain ⟨k, hk, rfl, hbw, HT⟩ := hrel
    by_cases hlt : k < ls.length
    · have hkl : (k : Int) < (ls.length : Int) := by omega
      obtain ⟨bx, ox, rfl, hcx⟩ := hca (by intro e; subst e; simp at hlt)
      have hxs : ls[k]? = some ls[k] := List.getElem?_eq_getElem hlt
      have hx := up hbw (hcx k _ hxs)
      have HXL := Lib.hid (HF.out _ (List.getElem_mem hlt))
      have HA1 := Lib.hid (at1_at q hxs)
      clear hxs hca hcx
      generalize ls[k] = x at *
      have HQX := Lib.hid (HQ.out x wr HXL.out hbw)
      have hws := hbw.size
      rcases hqx : q x with _ | _
      · rw [hqx] at HQX HA1
        go_wp2_with (go_at_call 37; (with_reducible refine HQX.out.mono ?_); rintro e w2 ⟨rfl, hb2⟩)
        go_roundw
        case rel => exact ⟨k + 1, by omega, by go_num, hbw.trans (hb2.mono hws), fun j hj => by
          by_cases hjk : j = k
          · rw [hjk]; exact HA1.out
          · exact HT.out j (by omega)⟩
        case measure => simp [intOf]; omega
      · rw [hqx] at HQX HA1
        have HR : Hid (R = (k : Int)) := HI.out.trans (first_hit HT.out hlt HA1.out)
        go_wp2_with (go_at_call 37; (with_reducible refine HQX.out.mono ?_); rintro e w2 ⟨rfl, hb2⟩)
        go_ret
        exact ⟨by rw [HR.out]; rfl, hbw.trans (hb2.mono hws)⟩
    · obtain rfl : k = ls.length := by omega
      have HR : Hid (R = -1) := HI.out.trans (first_none HT.out)
      clear hca
      go_wp2
      go_ret
      exact ⟨by rw [HR.out]; rfl, hbw⟩
set_option maxHeartbeats 4000000 in
theorem contains_any (bl bp bs : Nat) (v sv : Value) (p : SortSpec) (x : Str) (ys : List Str) (a : Value) (w : World) (he : Env w bl bp v sv p) (hs : SB1 w bs x) (h0 : check p = 0) (hx : x.length ≤ 65536) (hfit : Fit ys) (ha : Strs w a ys) :
    Calls Tryz.prog 38 #[a, .func (.func 39) #[] #[.pointer (some ⟨bl, 0, none⟩), .pointer (some ⟨bp, 0, none⟩), .pointer (some ⟨bs, 0, none⟩)]] w fun e w' => e = .returned (.bool (ys.any fun t => KeyMath.compare p x t == 0)) ∧ Below w.heap.size w w' := by
  have HI := Lib.hid (index1_any bl bp bs (fun t => KeyMath.compare p x t == 0) ys a w hfit ha fun y W hy hW => eq1_any bl bp bs v sv p x y W (he.below hW) ((hW.block _ hs.lt).trans hs) h0 hx hy)
  have HA := Lib.hid (idx_any (fun t => KeyMath.compare p x t == 0) ys)
  generalize idx (fun t => KeyMath.compare p x t == 0) ys = I at *
  obtain ⟨aa, ca, rfl, -⟩ := strs_form ha
  clear he hs ha hfit
  go_enter Tryz.func38, Tryz.ntmps38
  go_wp2_with (go_at_call 36; (with_reducible refine HI.out.mono ?_); rintro e w2 ⟨rfl, hb2⟩)
  go_ret
  exact ⟨by rw [← HA.out]; rfl, hb2⟩
set_option maxHeartbeats 4000000 in
theorem none_any (bo bl bp : Nat) (v sv : Value) (p : SortSpec) (x : Str) (ys : List Str) (a : Value) (w : World) (he : Env w bl bp v sv p) (ho : LB1 w bo a) (h0 : check p = 0) (hx : x.length ≤ 65536) (hfit : Fit ys) (ha : Strs w a ys) :
    Calls Tryz.prog 37 #[.string ⟨x.toArray⟩, .pointer (some ⟨bo, 0, none⟩), .pointer (some ⟨bl, 0, none⟩), .pointer (some ⟨bp, 0, none⟩)] w fun e w' => e = .returned (.bool (!(ys.any fun t => KeyMath.compare p x t == 0))) ∧ Below w.heap.size w w' := by
  have hb1 := (Below.refl w.heap.size w).alloc (Nat.le_refl _) (.cells #[.string ⟨x.toArray⟩] 9)
  have HB1 := Lib.hid hb1
  have HC := Lib.hid (contains_any bl bp w.heap.size v sv p x ys a _ (he.below hb1) (heap_alloc_new w (.cells #[.string ⟨x.toArray⟩] 9)) h0 hx hfit (ha.below hb1))
  have o0 := ho.cell
  have l0 := ho.lt
  obtain ⟨aa, ca, rfl, -⟩ := strs_form ha
  generalize (ys.any fun t => KeyMath.compare p x t == 0) = B at *
  clear he ho ha hfit hb1
  go_enter Tryz.func37, Tryz.ntmps37
  go_wp2_with (go_at_call 38; (with_reducible refine HC.out.mono ?_); rintro e w2 ⟨rfl, hb2⟩)
  go_ret
  exact ⟨rfl, below_step HB1.out hb2⟩
set_option maxHeartbeats 8000000 in
theorem missing_any (v sv : Value) (p : SortSpec) (xs ys : List Str) (a b : Value) (w : World) (hv : Wts w v) (hk : Keys w sv p.keys) (h0 : check p = 0) (hx : xs.length ≤ 65536) (hy : ys.length ≤ 65536) (hfx : Fit xs) (hfy : Fit ys) (ha : Strs w a xs) (hb : Strs w b ys) :
    Calls Tryz.prog 17 #[.agg #[posix, v, .string ⟨lowT.toArray⟩, .string ⟨upT.toArray⟩, .slice none 0 0, .slice none 0 0], specVal sv p, a, b] w fun e w' => e = .returned (.int .i64 (missing p xs ys)) ∧ Below w.heap.size w w' := by
  have HM : Hid (missing p xs ys = if p.uniq then idx (fun s => !(ys.any fun t => KeyMath.compare p s t == 0)) xs else extra xs ys) := rfl
  have HEX := Lib.hid (fun W hA hB => KExcess.excess_any a b xs ys W hx hy hfx hfy hA hB)
  have HIX := Lib.hid (fun W (hE : Env W w.heap.size (w.heap.size + 1) v sv p) (hO : LB1 W (w.heap.size + 1 + 1) b) (hA : Strs W a xs) (hB : Strs W b ys) => index2_any (w.heap.size + 1 + 1) w.heap.size (w.heap.size + 1) (fun s => !(ys.any fun t => KeyMath.compare p s t == 0)) xs a W hfx hA fun y W2 hy hW => none_any (w.heap.size + 1 + 1) w.heap.size (w.heap.size + 1) v sv p y ys b W2 (hE.below hW) ((hW.block _ hO.lt).trans hO) h0 hy hfy (hB.below hW))
  have HV := Lib.hid hv
  have HK := Lib.hid hk
  have HA := Lib.hid ha
  have HB := Lib.hid hb
  obtain ⟨aa, ca, rfl, -⟩ := strs_form ha
  obtain ⟨ab, cb, rfl, -⟩ := strs_form hb
  clear ha hb h0 hfx hfy
  obtain ⟨g, c, rfl, hgc, hcell⟩ := hv
  obtain ⟨ka, kc, rfl, -⟩ := hk
  clear hcell
  obtain ⟨ks, sep, fl, uq, st⟩ := p
  unfold posix specVal at *
  simp only at *
  generalize missing (⟨ks, sep, fl, uq, st⟩ : SortSpec) xs ys = R at *
  generalize idx (fun s => !(ys.any fun t => KeyMath.compare (⟨ks, sep, fl, uq, st⟩ : SortSpec) s t == 0)) xs = I at *
  have hb1 := ((Below.refl w.heap.size w).alloc (Nat.le_refl _) (.cells #[.string ⟨#[112, 111, 115, 105, 120]⟩, .slice (some ⟨g, 0, none⟩) 256 c, .string ⟨lowT.toArray⟩, .string ⟨upT.toArray⟩, .slice none 0 0, .slice none 0 0] 37)).alloc (by simp) (.cells #[.slice ka ks.length kc, .int .i64 sep, .int .i64 fl, .bool uq, .bool st] 24)
  have hb2 := hb1.alloc (by simp <;> omega) (.cells #[.slice ab ys.length cb] 25)
  have HB1 := Lib.hid hb2
  clear hb1 hb2
  cases uq with
  | false =>
    have HR : Hid (R = extra xs ys) := HM.out
    go_enter Tryz.func17, Tryz.ntmps17
    go_wp2_with (go_at_call 16; (with_reducible refine (HEX.out _ (HA.out.below HB1.out) (HB.out.below HB1.out)).mono ?_); rintro e w2 ⟨rfl, hb2⟩)
    go_ret
    exact ⟨by rw [HR.out]; rfl, below_step HB1.out hb2⟩
  | true =>
    have HR : Hid (R = I) := HM.out
    have HEW : Hid (Env _ w.heap.size (w.heap.size + 1) (.slice (some ⟨g, 0, none⟩) 256 c) (.slice ka ks.length kc) ⟨ks, sep, fl, true, st⟩) := ⟨HV.out.below HB1.out, HK.out.below HB1.out, (Below.heap_alloc _ _ _ (by simp <;> omega)).trans ((Below.heap_alloc _ _ _ (by simp)).trans (heap_alloc_new w _)), (Below.heap_alloc _ _ _ (by simp)).trans (alloc2 w _ _)⟩
    have HLW : Hid (LB1 (((w.alloc (.cells #[.string ⟨#[112, 111, 115, 105, 120]⟩, .slice (some ⟨g, 0, none⟩) 256 c, .string ⟨lowT.toArray⟩, .string ⟨upT.toArray⟩, .slice none 0 0, .slice none 0 0] 37)).alloc (.cells #[.slice ka ks.length kc, .int .i64 sep, .int .i64 fl, .bool true, .bool st] 24)).alloc (.cells #[.slice ab ys.length cb] 25)) (w.heap.size + 1 + 1) (.slice ab ys.length cb)) := alloc3 w _ _ _
    go_enter Tryz.func17, Tryz.ntmps17
    go_wp2_with (go_at_call 36
                 (with_reducible refine (HIX.out _ HEW.out HLW.out (HA.out.below HB1.out) (HB.out.below HB1.out)).mono ?_)
                 rintro e w2 ⟨rfl, hb2⟩)
    go_ret
    exact ⟨by rw [HR.out]; rfl, below_step HB1.out hb2⟩
end Go.Proofs.YtkekpiillbpciaaGreatDoor.KIndex

/- The first line that is equal to no other one: what the reference's lost returns. Lines of at most 65536 bytes. -/
namespace Go.Proofs.YtkekpiillbpciaaGreatDoor.KIndex
open Go Go.RowKit KeyMath KeyVals ScanMath Strs KLoc KRefCmp KSpec KEnv SortMath KMerge
set_option maxRecDepth 100000
theorem any_take_snoc {q : Str → Bool} {l : List Str} {k : Nat} {x : Str} (h : l[k]? = some x) : (l.take (k + 1)).any q = ((l.take k).any q || q x) := by
  rw [List.take_add_one, h, List.any_append]
  simp
theorem any_take_true {q : Str → Bool} {l : List Str} {k : Nat} (h : (l.take k).any q = true) : l.any q = true := by
  obtain ⟨x, hx, hq⟩ := List.any_eq_true.1 h
  exact List.any_eq_true.2 ⟨x, List.mem_of_mem_take hx, hq⟩
set_option maxHeartbeats 16000000 in
theorem lost_any (v sv : Value) (p : SortSpec) (xs ys : List Str) (a b : Value) (w : World) (hv : Wts w v) (hk : Keys w sv p.keys) (h0 : check p = 0) (hfx : Fit xs) (hfy : Fit ys) (ha : Strs w a xs) (hb : Strs w b ys) :
    Calls Tryz.prog 24 #[.agg #[posix, v, .string ⟨lowT.toArray⟩, .string ⟨upT.toArray⟩, .slice none 0 0, .slice none 0 0], specVal sv p, a, b] w fun e w' => e = .returned (.int .i64 (lost p xs ys)) ∧ Below w.heap.size w w' := by
  have HC := Lib.hid (fun x y (hx : x.length ≤ 65536) (hy : y.length ≤ 65536) W hW hK => KRefSort.refCmp_on v sv p x y W hW hK h0 hx hy)
  have HL : Hid (lost p xs ys = firstAt (at1 (fun s => !(ys.any fun t => KeyMath.compare p s t == 0)) xs) xs.length) := rfl
  have HV := Lib.hid hv
  have HK := Lib.hid hk
  have HFX := Lib.hid hfx
  have HFY := Lib.hid hfy
  obtain ⟨aa, ca, rfl, hma0, hca⟩ := ha
  obtain ⟨ab, cb, rfl, hmb0, hcb⟩ := hb
  have hma : xs.length ≤ 2 ^ 63 - 1 := Nat.le_trans hma0.1 hma0.2
  have hmb : ys.length ≤ 2 ^ 63 - 1 := Nat.le_trans hmb0.1 hmb0.2
  have HCA := Lib.hid hca
  have HCB := Lib.hid hcb
  clear hma0 hmb0 hca hcb h0 hfx hfy
  obtain ⟨g, c, rfl, hgc, hcell⟩ := hv
  obtain ⟨ka, kc, rfl, -⟩ := hk
  clear hcell
  obtain ⟨ks, sep, fl, uq, st⟩ := p
  unfold posix specVal at *
  simp only at *
  generalize lost (⟨ks, sep, fl, uq, st⟩ : SortSpec) xs ys = R at *
  have hb1 := ((Below.refl w.heap.size w).alloc (Nat.le_refl _) (.cells #[.string ⟨#[112, 111, 115, 105, 120]⟩, .slice (some ⟨g, 0, none⟩) 256 c, .string ⟨lowT.toArray⟩, .string ⟨upT.toArray⟩, .slice none 0 0, .slice none 0 0] 37)).alloc (by simp) (.cells #[.slice ka ks.length kc, .int .i64 sep, .int .i64 fl, .bool uq, .bool st] 24)
  have HB1 := Lib.hid hb1
  clear hb1
  go_enter Tryz.func24, Tryz.ntmps24
  go_wp2
  go_loopw [9] (fun i wr => ∃ k : Nat, k ≤ xs.length ∧ i = .int .i64 k ∧ Below w.heap.size w wr ∧ Box wr w.heap.size (.slice (some ⟨g, 0, none⟩) 256 c) ∧ SBox wr (w.heap.size + 1) (.slice ka ks.length kc) ⟨ks, sep, fl, uq, st⟩ ∧ Hid (∀ j, j < k → at1 (fun s => !(ys.any fun t => KeyMath.compare ⟨ks, sep, fl, uq, st⟩ s t == 0)) xs j = false)) (fun i _ => xs.length - (intOf i).toNat)
  case atStart => exact ⟨0, Nat.zero_le _, rfl, HB1.out, (Below.heap_alloc _ _ _ (by simp)).trans (heap_alloc_new w _), alloc2 w _ _, fun j hj => absurd hj (Nat.not_lt_zero _)⟩
  case round =>
    obtain ⟨k, hk, rfl, hbw0, hbx0, hsx0, HT⟩ := hrel
    by_cases hlt : k < xs.length
    · have hkl : (k : Int) < (xs.length : Int) := by omega
      obtain ⟨bx, ox, rfl, hcx⟩ := HCA.out (by intro e; subst e; simp at hlt)
      have hxs : xs[k]? = some xs[k] := List.getElem?_eq_getElem hlt
      have HX0 := Lib.hid (hcx k _ hxs)
      have HXL := Lib.hid (HFX.out _ (List.getElem_mem hlt))
      have HA1 := Lib.hid (at1_at (fun s => !(ys.any fun t => KeyMath.compare ⟨ks, sep, fl, uq, st⟩ s t == 0)) hxs)
      clear hxs hcx
      generalize xs[k] = x at *
      go_wp2
      have HBW0 := Lib.hid hbw0
      have HBX0 := Lib.hid hbx0
      have HSX0 := Lib.hid hsx0
      clear hbw0 hbx0 hsx0
      rename World => wm
      go_loopw [10, 11] (fun f i wr => ∃ (q : Nat) (B : Bool), q ≤ ys.length ∧ i = .int .i64 q ∧ f = .bool B ∧ Below w.heap.size w wr ∧ Box wr w.heap.size (.slice (some ⟨g, 0, none⟩) 256 c) ∧ SBox wr (w.heap.size + 1) (.slice ka ks.length kc) ⟨ks, sep, fl, uq, st⟩ ∧ Hid (((ys.take q).any fun t => KeyMath.compare ⟨ks, sep, fl, uq, st⟩ x t == 0) = B)) (fun _ i _ => ys.length - (intOf i).toNat)
      case atStart => exact ⟨0, false, Nat.zero_le _, rfl, rfl, HBW0.out, HBX0.out, HSX0.out, rfl⟩
      case round =>
        obtain ⟨q, B, hq, rfl, rfl, hbw, hbx, hsx, HN⟩ := hrel
        have HBX := Lib.hid hbx
        have HSX := Lib.hid hsx
        have HBW := Lib.hid hbw
        have hws := hbw.size
        have hlx := hsx.lt
        obtain ⟨-, c1, c2, c3, c4, c5⟩ := hbx.cells
        have c0 := hbx.cells'
        obtain ⟨d0, d1, d2, d3, d4⟩ := hsx.cells
        clear hbx hsx
        have HNEXT : Hid (∀ (hB : (ys.any fun t => KeyMath.compare ⟨ks, sep, fl, uq, st⟩ x t == 0) = true) j, j < k + 1 → at1 (fun s => !(ys.any fun t => KeyMath.compare ⟨ks, sep, fl, uq, st⟩ s t == 0)) xs j = false) := fun hB j hj => by
          by_cases hjk : j = k
          · rw [hjk, HA1.out, hB]; rfl
          · exact HT.out j (by omega)
        cases B with
        | true =>
          have HN2 := Lib.hid (HNEXT.out (any_take_true HN.out))
          go_wp2
          all_goals
            go_roundw
            case rel => exact ⟨k + 1, by omega, by go_num, hbw, HBX.out, HSX.out, HN2.out⟩
            case measure => simp [intOf]; omega
        | false =>
          by_cases hltq : q < ys.length
          · have hql : (q : Int) < (ys.length : Int) := by omega
            obtain ⟨bY, oY, rfl, hcy⟩ := HCB.out (by intro e; subst e; simp at hltq)
            have hys : ys[q]? = some ys[q] := List.getElem?_eq_getElem hltq
            have hy := up hbw (hcy q _ hys)
            have hx := up hbw HX0.out
            have HYS := Lib.hid hys
            have HYL := Lib.hid (HFY.out _ (List.getElem_mem hltq))
            clear hys hcy
            generalize ys[q] = y at *
            have HCK := Lib.hid (fun W hW hK => HC.out x y HXL.out HYL.out W hW hK)
            have HN2 : Hid (((ys.take (q + 1)).any fun t => KeyMath.compare ⟨ks, sep, fl, uq, st⟩ x t == 0) = (KeyMath.compare ⟨ks, sep, fl, uq, st⟩ x y == 0)) := by
              show _ = _
              rw [any_take_snoc HYS.out, HN.out]
              rfl
            generalize KeyMath.compare (⟨ks, sep, fl, uq, st⟩ : SortSpec) x y = C at *
            go_wp2
            refine KCompare.enter (by kernel_rfl) (by kernel_rfl) ?_
            intro X F hN hBF hF
            have hX : ∀ z, Box (F z) w.heap.size (.slice (some ⟨g, 0, none⟩) 256 c) := fun z => HBX.out.keep ((hBF z).block _ HBX.out.lt)
            have hS : ∀ z, SBox (F z) (w.heap.size + 1) (.slice ka ks.length kc) ⟨ks, sep, fl, uq, st⟩ := fun z => HSX.out.keep ((hBF z).block _ HSX.out.lt)
            have hBel : ∀ z, Below w.heap.size w (F z) := fun z => hbw.trans ((hBF z).mono hws)
            have HVF : Hid (∀ z, Wts (F z) (.slice (some ⟨g, 0, none⟩) 256 c)) := fun z => HV.out.below (hBel z)
            have HKF : Hid (∀ z, Keys (F z) (.slice ka ks.length kc) ks) := fun z => HK.out.below (hBel z)
            clear c0 c1 c2 c3 c4 c5 d0 d1 d2 d3 d4
            have c0 : ∀ z, (F z).cell? ⟨w.heap.size, 0, none⟩ = some (.string ⟨#[112, 111, 115, 105, 120]⟩) := fun z => (hX z).cells'
            have c1 : ∀ z, (F z).cell? ⟨w.heap.size, 1, none⟩ = some (.slice (some ⟨g, 0, none⟩) 256 c) := fun z => (hX z).cells.2.1
            have c2 : ∀ z, (F z).cell? ⟨w.heap.size, 2, none⟩ = some (.string ⟨lowT.toArray⟩) := fun z => (hX z).cells.2.2.1
            have c3 : ∀ z, (F z).cell? ⟨w.heap.size, 3, none⟩ = some (.string ⟨upT.toArray⟩) := fun z => (hX z).cells.2.2.2.1
            have c4 : ∀ z, (F z).cell? ⟨w.heap.size, 4, none⟩ = some (.slice none 0 0) := fun z => (hX z).cells.2.2.2.2.1
            have c5 : ∀ z, (F z).cell? ⟨w.heap.size, 5, none⟩ = some (.slice none 0 0) := fun z => (hX z).cells.2.2.2.2.2
            have d0 : ∀ z, (F z).cell? ⟨w.heap.size + 1, 0, none⟩ = some (.slice ka ks.length kc) := fun z => (hS z).cells.1
            have d1 : ∀ z, (F z).cell? ⟨w.heap.size + 1, 1, none⟩ = some (.int .i64 sep) := fun z => (hS z).cells.2.1
            have d2 : ∀ z, (F z).cell? ⟨w.heap.size + 1, 2, none⟩ = some (.int .i64 fl) := fun z => (hS z).cells.2.2.1
            have d3 : ∀ z, (F z).cell? ⟨w.heap.size + 1, 3, none⟩ = some (.bool uq) := fun z => (hS z).cells.2.2.2.1
            have d4 : ∀ z, (F z).cell? ⟨w.heap.size + 1, 4, none⟩ = some (.bool st) := fun z => (hS z).cells.2.2.2.2
            have hxf : ∀ z, (F z).cell? ⟨bx, ox + k, none⟩ = some (.string ⟨x.toArray⟩) := fun z => up (hBF z) hx
            have hyf : ∀ z, (F z).cell? ⟨bY, oY + q, none⟩ = some (.string ⟨y.toArray⟩) := fun z => up (hBF z) hy
            have HXF := Lib.hid hX
            have HSF := Lib.hid hS
            have HBF := Lib.hid hBF
            have HBL := Lib.hid hBel
            clear hX hS hBel hBF
            repeat go_big_quiet_step (first
              | (go_at_call 49
                 (with_reducible refine (HCK.out _ (HVF.out _) (HKF.out _)).mono ?_)
                 rintro e w1 ⟨rfl, hb1⟩
                 exact ⟨rfl, hF _ _ hb1⟩))
            refine wpQuiet_nil ?_
            rintro _ ⟨z, rfl⟩
            clear hxf hyf hx hy
            go_wp2
            go_roundw
            case rel => exact ⟨q + 1, _, by omega, by go_num, rfl, HBL.out z, HXF.out z, HSF.out z, HN2.out⟩
            case measure => simp [intOf]; omega
          · obtain rfl : q = ys.length := by omega
            have HB : Hid (at1 (fun s => !(ys.any fun t => KeyMath.compare ⟨ks, sep, fl, uq, st⟩ s t == 0)) xs k = true) := by
              show _ = _
              have hn := HN.out
              rw [List.take_length] at hn
              rw [HA1.out, hn]
              rfl
            have HR : Hid (R = (k : Int)) := HL.out.trans (first_hit HT.out hlt HB.out)
            go_wp2
            go_ret
            exact ⟨by rw [HR.out]; rfl, hbw⟩
    · obtain rfl : k = xs.length := by omega
      have HR : Hid (R = -1) := HL.out.trans (first_none HT.out)
      go_wp2
      go_ret
      exact ⟨by rw [HR.out]; rfl, hbw0⟩
end Go.Proofs.YtkekpiillbpciaaGreatDoor.KIndex
