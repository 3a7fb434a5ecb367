/- KRefCmp; KRefCmp2: merged into one text: lemmas for the walk of the law. No condition. -/
import Derived.Test.YtkekpiillbpciaaGreatDoorM6
import Derived.Deep.RegionLaw
import Derived.Deep.AppendLies
import Derived.Laws.Pointers
import Derived.BigQuiet
import Derived.Deep.QuietTactic
/- Comparing strings in the default locale: what the reference does. Strings of at most 65536 bytes. -/
namespace Go.Proofs.YtkekpiillbpciaaGreatDoor.KRefCmp
open Go Go.RowKit KeyMath ScanMath KLoc Strs KNum
set_option maxRecDepth 100000

theorem int_info : (Tryz.prog.info? 3).map (fun i => (i.zero, i.size, i.bytes)) = some (some (.int .i64 0), 1, 8) := by kernel_rfl
def icells (l : List UInt8) : List Value := l.map fun b => Value.int .i64 (b.toNat : Int)
theorem icells_length (l : List UInt8) : (icells l).length = l.length := by simp [icells]
theorem icells_snoc {l : List UInt8} {k : Nat} {x : UInt8} (h : l[k]? = some x) : icells (l.take (k + 1)) = icells (l.take k) ++ [.int .i64 (x.toNat : Int)] := by
  rw [List.take_add_one, h]
  simp [icells]
/-- the default locale in a block of its own -/
def Box (w : World) (b : Nat) (v : Value) : Prop := w.heap[b]? = some (.cells #[posix, v, .string ⟨lowT.toArray⟩, .string ⟨upT.toArray⟩, .slice none 0 0, .slice none 0 0] 37 (0, 0))
theorem Box.cells {w : World} {b : Nat} {v : Value} (h : Box w b v) : w.cell? ⟨b, 0, none⟩ = some posix ∧ w.cell? ⟨b, 1, none⟩ = some v ∧ w.cell? ⟨b, 2, none⟩ = some (.string ⟨lowT.toArray⟩) ∧ w.cell? ⟨b, 3, none⟩ = some (.string ⟨upT.toArray⟩) ∧
    w.cell? ⟨b, 4, none⟩ = some (.slice none 0 0) ∧ w.cell? ⟨b, 5, none⟩ = some (.slice none 0 0) := by
  refine ⟨?_, ?_, ?_, ?_, ?_, ?_⟩ <;> (rw [cell_of_row w b _ _ _ _ h]; rfl)
theorem Box.lt {w : World} {b : Nat} {v : Value} (h : Box w b v) : b < w.heap.size := (Array.getElem?_eq_some_iff.1 h).1
theorem Box.keep {w w' : World} {b : Nat} {v : Value} (h : Box w b v) (hk : w'.heap[b]? = w.heap[b]?) : Box w' b v := hk.trans h
theorem ownsRow_keep {w w' : World} {base : Nat} {e : TypeId} {size : Nat} {v : Value} {n : Nat} {xs : List Value} (h : w.ownsRow base e size v n xs) (hk : ∀ k, v.ownBlock = some k → w'.heap[k]? = w.heap[k]?) : w'.ownsRow base e size v n xs := by
  refine ⟨h.1, ?_⟩
  rcases h.2 with hn | ⟨g, cap, cur, hv, hb, hg, rest⟩
  · exact .inl hn
  · subst hv
    exact .inr ⟨g, cap, cur, rfl, hb, by rw [hk g (by simp [Value.ownBlock])]; exact hg, rest⟩
theorem ownsRow_block {w : World} {base : Nat} {e : TypeId} {size : Nat} {v : Value} {n : Nat} {xs : List Value} (h : w.ownsRow base e size v n xs) : ∀ k, v.ownBlock = some k → base ≤ k ∧ k < w.heap.size := by
  intro k hk
  rcases h.2 with ⟨rfl, _⟩ | ⟨g, cap, cur, rfl, hb, hg, _⟩
  · simp [Value.ownBlock] at hk
  · simp [Value.ownBlock] at hk
    subst hk
    exact ⟨hb, (Array.getElem?_eq_some_iff.1 hg).1⟩

theorem ownsRow_mono {w : World} {base base' : Nat} {e : TypeId} {size : Nat} {v : Value} {n : Nat} {xs : List Value} (h : w.ownsRow base e size v n xs) (hb : base' ≤ base) : w.ownsRow base' e size v n xs := by
  refine ⟨h.1, ?_⟩
  rcases h.2 with hn | ⟨g, cap, cur, hv, hg, rest⟩
  · exact .inl hn
  · exact .inr ⟨g, cap, cur, hv, Nat.le_trans hb hg, rest⟩
set_option maxHeartbeats 1000000 in
theorem find_any (v : Value) (s : ByteArray) (k : Nat) (w : World) :
    Calls Tryz.prog 147 #[.agg #[posix, v, .string ⟨lowT.toArray⟩, .string ⟨upT.toArray⟩, .slice none 0 0, .slice none 0 0], .string s, .int .i64 k] w fun e w' => e = .returned (.int .i64 (-1)) ∧ Below w.heap.size w w' := by
  go_enter Tryz.func147, Tryz.ntmps147
  go_wp2
  go_loopw [7] (fun i wr => i = .int .i64 0 ∧ wr = w.alloc (.cells #[posix, v, .string ⟨lowT.toArray⟩, .string ⟨upT.toArray⟩, .slice none 0 0, .slice none 0 0] 37)) (fun _ _ => 0)
  case atStart => exact ⟨rfl, rfl⟩
  case round =>
    obtain ⟨rfl, rfl⟩ := hrel
    go_wp2
    go_ret
    exact ⟨rfl, (Below.refl _ _).alloc (Nat.le_refl _) _⟩
/-- what weights leaves: the bytes as numbers -/
def WtPost (w : World) (l : List UInt8) (e : Ending) (w' : World) : Prop := ∃ v, e = .returned v ∧ w'.ownsRow w.heap.size 3 1 v l.length (icells l) ∧ Below w.heap.size w w'
set_option maxHeartbeats 4000000 in
theorem weights_any (v : Value) (s : ByteArray) (w : World) (hv : Wts w v) (hs : s.size ≤ 65536) :
    Calls Tryz.prog 101 #[.agg #[posix, v, .string ⟨lowT.toArray⟩, .string ⟨upT.toArray⟩, .slice none 0 0, .slice none 0 0], .string s] w (WtPost w s.data.toList) := by
  obtain ⟨i0, hi, hz0, hz1, hz2⟩ := info_parts int_info
  obtain ⟨g, c, rfl, hgc, hcell⟩ := hv
  have HC := Lib.hid hcell
  have HF := Lib.hid fun (k : Nat) W => find_any (.slice (some ⟨g, 0, none⟩) 256 c) s k W
  clear hcell
  have hss : s.data.toList.length = s.size := len_eq s
  go_enter Tryz.func101, Tryz.ntmps101
  go_wp2
  go_loopw [5, 6] (fun o i wr => ∃ k : Nat, k ≤ s.size ∧ i = .int .i64 k ∧ wr.ownsRow (w.heap.size + 1) 3 1 o k (icells (s.data.toList.take k)) ∧ Box wr w.heap.size (.slice (some ⟨g, 0, none⟩) 256 c) ∧ Below w.heap.size w wr) (fun _ i _ => s.size - (intOf i).toNat)
  case atStart => exact ⟨0, Nat.zero_le _, rfl, ⟨by simp [icells], .inl ⟨rfl, rfl⟩⟩, heap_alloc_new w _, (Below.refl _ _).alloc (Nat.le_refl _) _⟩
  case round =>
    obtain ⟨k, hk, rfl, hown, hbox, hb⟩ := hrel
    have HB := Lib.hid hbox
    have hbl := hbox.lt
    have HO := Lib.hid hown
    obtain ⟨c0, c1, c2, c3, c4, c5⟩ := hbox.cells
    clear hbox hown
    by_cases hlt : k < s.size
    · have hx := Lib.hid (at_some s hlt)
      have hbb : s[k].toNat < 256 := UInt8.toNat_lt _
      have hww := up hb (HC.out s[k].toNat hbb)
      have hlt' : (k : Int) < (s.size : Int) := by omega
      have hbb' : (s[k].toNat : Int) < 256 := by omega
      have hn63 : k + 1 ≤ maxLen := by unfold maxLen; omega
      have hn47 : (k + 1) * 8 ≤ 140737488355328 := by omega
      have HX := Lib.hid (icells_snoc hx.out)
      go_wp2_with (go_at_call 147; (with_reducible refine (HF.out _ _).mono ?_); rintro e w2 ⟨rfl, hb2⟩; have hbx2 := HB.out.keep (hb2.block _ hbl); have hown2 := ownsRow_keep HO.out (fun z hz => hb2.block z (ownsRow_block HO.out z hz).2); have hsz2 : wr.heap.size ≤ w2.heap.size := hb2.size; have hww2 := up hb2 hww; obtain ⟨d0, d1, -, -, -, -⟩ := hbx2.cells; clear c0 c1 c2 c3 c4 c5 hww)
      have hbw2 : Below w.heap.size w w2 := hb.trans (hb2.mono hb.size)
      have hsw : w.heap.size + 1 ≤ w2.heap.size := by omega
      go_region_law
        ((refine step_append_lies _ (by rfl) _ _ _ (by rfl) (w.heap.size + 1) 3 i0 _ 1 8 Tryz.underlying33 hi hz0 hz1 hz2 rfl (by omega) _ k (icells (s.data.toList.take k)) (by rfl) ((hown2.alloc _).drew)
            ⟨w2.heap.size, 0, none⟩ 1 1 [.int .i64 (s[k].toNat : Int)] (by rfl) (by rfl) (World.news_of_block (cs := #[.int .i64 (s[k].toNat : Int)]) (t := 3) (fr := (0, 0)) (heap_alloc_new w2 _)) (by simp [Value.oneCell'])
            (by omega) hn63 hn47 (by simp; omega) (w2.heap.size + 1) (by simp) ?_; intro gg cap w3 hown3 hgrow hat hlt3))
      all_goals go_wp2
      all_goals
        go_roundw
        case rel => exact ⟨k + 1, by omega, by go_num, by rw [HX.out]; exact hown3, hbx2.keep ((hgrow.block _ (by simp; omega) (fun e => by have := (ownsRow_block hown2 _ e.symm).1; omega)).trans (Below.heap_alloc w2 _ _ (by omega))), (hbw2.alloc hbw2.size _).drew.grown hgrow (by simp; omega) (fun z hz => by have := (ownsRow_block hown2 z hz).1; omega)⟩
        case measure => simp [intOf]; omega
    · obtain rfl : k = s.size := by omega
      go_wp2
      go_ret
      have e : s.data.toList.take s.size = s.data.toList := List.take_of_length_le (by rw [hss]; exact Nat.le_refl _)
      have h2 := HO.out
      rw [e] at h2
      exact ⟨_, rfl, by rw [hss]; exact ownsRow_mono h2 (by omega), hb⟩
end Go.Proofs.YtkekpiillbpciaaGreatDoor.KRefCmp

/- Comparing lists of bytes as numbers, and strings in the default locale: what the reference does. Strings of at most 65536 bytes. -/
namespace Go.Proofs.YtkekpiillbpciaaGreatDoor.KRefCmp
open Go Go.RowKit KeyMath ScanMath KLoc Strs KNum
set_option maxRecDepth 100000

/-- slice value v reads as the bytes l, as numbers -/
def Ints (w : World) (v : Value) (l : List UInt8) : Prop :=
  ∃ a c, v = .slice a l.length c ∧ (l.length ≤ c ∧ c ≤ maxLen) ∧ (l ≠ [] → ∃ b off, a = some ⟨b, off, none⟩ ∧ ∀ (j : Nat) x, l[j]? = some x → w.cell? ⟨b, off + j, none⟩ = some (.int .i64 (x.toNat : Int)))
theorem Ints.keep {w w' : World} {v : Value} {l : List UInt8} (h : Ints w v l) (hk : ∀ p : Addr, (w.cell? p).isSome = true → w'.cell? p = w.cell? p) : Ints w' v l := by
  obtain ⟨a, c, rfl, hm, hc⟩ := h
  refine ⟨a, c, rfl, hm, fun hne => ?_⟩
  obtain ⟨b, off, rfl, hcell⟩ := hc hne
  exact ⟨b, off, rfl, fun j x hj => by rw [hk _ (by rw [hcell j x hj]; rfl)]; exact hcell j x hj⟩
theorem Ints.below {w w' : World} {v : Value} {l : List UInt8} (h : Ints w v l) (hb : Below w.heap.size w w') : Ints w' v l :=
  h.keep fun p hp => hb.cell (by obtain ⟨x, hx⟩ := Option.isSome_iff_exists.1 hp; exact World.block_lt_of_cell? w p hx)
theorem Ints.drewN {w : World} {v : Value} {l : List UInt8} (h : Ints w v l) (n : Nat) : Ints (w.drewN n) v l := h
theorem Ints.of_Row {w : World} {base : Nat} {e : TypeId} {v : Value} {n : Nat} {l : List UInt8} (h : Own.Row w base e 1 v n (icells l)) : Ints w v l := by
  have hl : l.length = n := by have := h.1; simpa [icells_length] using this
  subst hl
  rcases h.2 with ⟨rfl, h0⟩ | ⟨g, cap, cur, fz, rfl, hb, hg, hfz, hnc, hcm, hcs, htk⟩
  · have : l = [] := List.eq_nil_of_length_eq_zero h0
    subst this
    exact ⟨none, 0, rfl, ⟨Nat.le_refl _, Nat.zero_le _⟩, fun h => absurd rfl h⟩
  · refine ⟨_, cap, rfl, ⟨hnc, hcm⟩, fun _ => ⟨g, 0, rfl, fun j x hj => ?_⟩⟩
    rw [Nat.zero_add, Own.cell_at w g j cur e fz hg]
    have hj2 : (icells l)[j]? = some (.int .i64 (x.toNat : Int)) := by simp [icells, hj]
    rw [← htk, List.getElem?_take] at hj2
    split at hj2
    · simpa using hj2
    · cases hj2
theorem Ints.of_row {w : World} {base : Nat} {e : TypeId} {v : Value} {n : Nat} {l : List UInt8} (h : w.ownsRow base e 1 v n (icells l)) : Ints w v l := Ints.of_Row (Own.Row.of h)
theorem cmp_short {i : Nat} {x y : List UInt8} (h : x.take i = y.take i) (hx : i = x.length) (hl : x.length < y.length) : cmp x y = -1 := by
  rw [cmp_end h (.inl hx) (by omega) (by omega), if_pos hl]
theorem cmp_long {i : Nat} {x y : List UInt8} (h : x.take i = y.take i) (hy : i = y.length) (hl : y.length < x.length) : cmp x y = 1 := by
  rw [cmp_end h (.inr hy) (by omega) (by omega), if_neg (by omega), if_pos hl]
theorem cmp_same {i : Nat} {x y : List UInt8} (h : x.take i = y.take i) (hx : i = x.length) (hl : x.length = y.length) : cmp x y = 0 := by
  rw [cmp_end h (.inl hx) (by omega) (by omega), if_neg (by omega), if_neg (by omega)]
theorem take_succ {l m : List UInt8} {k : Nat} {x y : UInt8} (h : l.take k = m.take k) (hx : l[k]? = some x) (hy : m[k]? = some y) (e : x = y) : l.take (k + 1) = m.take (k + 1) := by
  rw [List.take_add_one, List.take_add_one, h, hx, hy, e]
set_option maxHeartbeats 4000000 in
theorem order_any (a b : Value) (xs ys : List UInt8) (w : World) (ha : Ints w a xs) (hb : Ints w b ys) :
    Calls Tryz.prog 100 #[a, b] w fun e w' => e = .returned (.int .i64 (cmp xs ys)) ∧ ∃ n, w' = w.drewN n := by
  obtain ⟨aa, ca, rfl, hma0, hca⟩ := ha
  obtain ⟨ab, cb, rfl, hmb0, hcb⟩ := hb
  have hma : xs.length ≤ 2 ^ 63 - 1 := Nat.le_trans hma0.1 hma0.2
  have hmb : ys.length ≤ 2 ^ 63 - 1 := Nat.le_trans hmb0.1 hmb0.2
  clear hma0 hmb0
  go_enter Tryz.func100, Tryz.ntmps100
  go_wp2
  go_loopw [5] (fun i wr => ∃ k n : Nat, k ≤ xs.length ∧ k ≤ ys.length ∧ i = .int .i64 k ∧ wr = w.drewN n ∧ Hid (xs.take k = ys.take k)) (fun i _ => xs.length - (intOf i).toNat)
  case atStart => exact ⟨0, 0, Nat.zero_le _, Nat.zero_le _, rfl, rfl, rfl⟩
  case round =>
    obtain ⟨k, n, hk1, hk2, rfl, rfl, HT⟩ := hrel
    by_cases h1 : k < xs.length
    · have b1 : (k : Int) < (xs.length : Int) := by omega
      by_cases h2 : k < ys.length
      · have b2 : (k : Int) < (ys.length : Int) := by omega
        obtain ⟨bx, ox, rfl, hcx⟩ := hca (by intro e; subst e; simp at h1)
        obtain ⟨bY, oY, rfl, hcy⟩ := hcb (by intro e; subst e; simp at h2)
        have hxs : xs[k]? = some xs[k] := List.getElem?_eq_getElem h1
        have hys : ys[k]? = some ys[k] := List.getElem?_eq_getElem h2
        have hx := hcx k xs[k] hxs
        have hy := hcy k ys[k] hys
        have HX := Lib.hid hxs
        have HY := Lib.hid hys
        clear hxs hys hca hcb hcx hcy
        generalize xs[k] = x at *
        generalize ys[k] = y at *
        by_cases hlt : x.toNat < y.toNat
        · have hlt' : (x.toNat : Int) < (y.toNat : Int) := by omega
          have HR := Lib.hid (cmp_less HT.out HX.out HY.out hlt)
          go_wp2
          go_quiet (fail)
          go_wp2
          go_ret
          exact ⟨by rw [HR.out]; rfl, n + nq, by rw [World.drewN_drewN]⟩
        · have hge' : ¬ (x.toNat : Int) < (y.toNat : Int) := by omega
          by_cases hgt : y.toNat < x.toNat
          · have hgt' : (y.toNat : Int) < (x.toNat : Int) := by omega
            have HR := Lib.hid (cmp_more HT.out HX.out HY.out hgt)
            go_wp2
            go_quiet (fail)
            go_wp2
            go_quiet (fail)
            go_wp2
            go_ret
            exact ⟨by rw [HR.out]; rfl, _, by rw [World.drewN_drewN, World.drewN_drewN]⟩
          · have hle' : ¬ (y.toNat : Int) < (x.toNat : Int) := by omega
            have hxy : x = y := UInt8.toNat_inj.1 (by omega)
            have HE := Lib.hid hxy
            have HN := Lib.hid (take_succ HT.out HX.out HY.out HE.out)
            clear hxy
            go_wp2
            go_quiet (fail)
            go_wp2
            go_quiet (fail)
            go_wp2
            go_roundw
            case rel => exact ⟨k + 1, _, by omega, by omega, by go_num, rfl, HN⟩
            case measure => simp [intOf]; omega
      · have hke : k = ys.length := by omega
        have HR := Lib.hid (cmp_long HT.out hke (by omega))
        obtain rfl := hke
        clear hca hcb
        go_wp2
        go_ret
        exact ⟨by rw [HR.out]; rfl, n, rfl⟩
    · have hke : k = xs.length := by omega
      obtain rfl := hke
      by_cases h2 : xs.length < ys.length
      · have HR := Lib.hid (cmp_short HT.out rfl h2)
        clear hca hcb
        go_wp2
        go_ret
        exact ⟨by rw [HR.out]; rfl, n, rfl⟩
      · have hll : xs.length = ys.length := by omega
        have HR := Lib.hid (cmp_same HT.out rfl hll)
        have h3 : ¬ ys.length < xs.length := by omega
        clear hca hcb hll
        go_wp2
        go_ret
        exact ⟨by rw [HR.out]; rfl, n, rfl⟩
theorem wrap_byte (b : UInt8) : wrap64 (b.toNat : Int) = (b.toNat : Int) := by
  have := b.toNat_lt
  unfold wrap64
  omega
set_option maxHeartbeats 4000000 in
theorem bytes_any (s t : ByteArray) (w : World) (hs : s.size ≤ 65536) (ht : t.size ≤ 65536) :
    Calls Tryz.prog 102 #[.string s, .string t] w fun e w' => e = .returned (.int .i64 (cmp s.data.toList t.data.toList)) ∧ Below w.heap.size w w' := by
  obtain ⟨i0, hi, hz0, hz1, hz2⟩ := info_parts int_info
  have hss : s.data.toList.length = s.size := len_eq s
  have htt : t.data.toList.length = t.size := len_eq t
  go_enter Tryz.func102, Tryz.ntmps102
  go_wp2
  go_loopw [5, 7] (fun o i wr => ∃ k : Nat, k ≤ s.size ∧ i = .int .i64 k ∧ Own.Row wr w.heap.size 3 1 o k (icells (s.data.toList.take k)) ∧ Below w.heap.size w wr) (fun _ i _ => s.size - (intOf i).toNat)
  case atStart => exact ⟨0, Nat.zero_le _, rfl, Own.Row.nil _ _ _ _, Below.refl _ _⟩
  case round =>
    obtain ⟨k, hk, rfl, hrow, hb⟩ := hrel
    by_cases hlt : k < s.size
    · have hx := Lib.hid (at_some s hlt)
      have hlt' : (k : Int) < (s.size : Int) := by omega
      have n1 : k + 1 ≤ maxLen := by unfold maxLen; omega
      have n2 : (k + 1) * 8 ≤ 140737488355328 := by omega
      have HX := Lib.hid (icells_snoc hx.out)
      have hbs := hb.size
      go_wp2_with (at_builtin
                   refine Own.wpList_append_one _ rfl _ _ 33 rfl w.heap.size 3 i0 (.int .i64 0) 8 Tryz.underlying33 hi hz0 hz1 hz2 rfl _ _ _ rfl hrow _ rfl rfl n1 n2 hbs ?_
                   intro v' w1 hrow1 hg1 hb1)
      go_roundw
      case rel => exact ⟨k + 1, by omega, by go_num, by rw [HX.out]; rw [wrap_byte] at hrow1; exact hrow1, hb.trans hb1⟩
      case measure => simp [intOf]; omega
    · obtain rfl : k = s.size := by omega
      have e : s.data.toList.take s.size = s.data.toList := List.take_of_length_le (by rw [hss]; exact Nat.le_refl _)
      rw [e] at hrow
      have HRA := Lib.hid hrow
      have HBA := Lib.hid hb
      have hbsz := hb.size
      clear hrow hb
      go_wp2
      go_loopw [6, 8] (fun o i wx => ∃ k : Nat, k ≤ t.size ∧ i = .int .i64 k ∧ Own.Row wx wr.heap.size 3 1 o k (icells (t.data.toList.take k)) ∧ Below wr.heap.size wr wx) (fun _ i _ => t.size - (intOf i).toNat)
      case atStart => exact ⟨0, Nat.zero_le _, rfl, Own.Row.nil _ _ _ _, Below.refl _ _⟩
      case round =>
        rename World => wx
        obtain ⟨k, hk, rfl, hrow, hb⟩ := hrel
        by_cases hlt : k < t.size
        · have hx := Lib.hid (at_some t hlt)
          have hlt' : (k : Int) < (t.size : Int) := by omega
          have n1 : k + 1 ≤ maxLen := by unfold maxLen; omega
          have n2 : (k + 1) * 8 ≤ 140737488355328 := by omega
          have HX := Lib.hid (icells_snoc hx.out)
          have hbs := hb.size
          go_wp2_with (at_builtin
                       refine Own.wpList_append_one _ rfl _ _ 33 rfl wr.heap.size 3 i0 (.int .i64 0) 8 Tryz.underlying33 hi hz0 hz1 hz2 rfl _ _ _ rfl hrow _ rfl rfl n1 n2 hbs ?_
                       intro v' w1 hrow1 hg1 hb1)
          go_roundw
          case rel => exact ⟨k + 1, by omega, by go_num, by rw [HX.out]; rw [wrap_byte] at hrow1; exact hrow1, hb.trans hb1⟩
          case measure => simp [intOf]; omega
        · obtain rfl : k = t.size := by omega
          have e : t.data.toList.take t.size = t.data.toList := List.take_of_length_le (by rw [htt]; exact Nat.le_refl _)
          rw [e] at hrow
          have HO := Lib.hid (order_any _ _ s.data.toList t.data.toList wx (Ints.of_Row (HRA.out.below hb)) (Ints.of_Row hrow))
          have HBB := Lib.hid (HBA.out.trans (hb.mono hbsz))
          clear hrow hb
          go_wp2_with (go_at_call 100; refine HO.out.mono ?_; rintro e w2 ⟨rfl, nn, rfl⟩)
          go_ret
          exact ⟨rfl, Base.below_drewN HBB.out _⟩
end Go.Proofs.YtkekpiillbpciaaGreatDoor.KRefCmp
