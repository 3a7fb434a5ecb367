/- The walk of CharsetCounts: it returns true; the library's table must hold its sixty-four numbers. -/
import Derived.Test.YtfgfphodpghgbaaDoorCharAwake
import Derived.Test.YtfgfphodpghgbaaDoorCharEq
import Derived.Test.YtfgfphodpghgbaaDoorQuietly
namespace Go.Proofs.YtfgfphodpghgbaaDoor.CharsetCountsWalk
open Go Go.RowKit CharHas CharWith CharOf CharRefOf CharRange CharOps CharTz CharList CharRefList CharRefOps CharAwake CharEq Quietly

theorem mem_upTo (p : Nat → Bool) (n c : Nat) : c ∈ Sets.upTo p n ↔ c < n ∧ p c = true := by simp [Sets.upTo]
theorem rising (p : Nat → Bool) (n : Nat) : (Sets.upTo p n).Pairwise (· < ·) := List.Pairwise.filter _ List.pairwise_lt_range
theorem count_sum (l : List Nat) (p q : Nat → Bool) : (l.filter fun c => p c || q c).length + (l.filter fun c => p c && q c).length = (l.filter p).length + (l.filter q).length := by
  induction l with
  | nil => rfl
  | cons c l ih =>
    simp only [List.filter_cons]
    cases p c <;> cases q c <;> simp <;> omega
theorem sum (p q : Nat → Bool) : (lst (fun c => p c || q c) 256).length + (lst (fun c => p c && q c) 256).length = (lst p 256).length + (lst q 256).length := by
  simp only [lst_length]
  exact count_sum _ p q
theorem same_word (p : Nat → Bool) (j : Nat) (hj : j < 4) : Sets.wordOf (memP (lst p 256)) j = Sets.wordOf p j :=
  Sets.wordOf_congr _ _ j fun i hi => by
    rw [Bool.eq_iff_iff]
    simp only [memP, List.any_eq_true, beq_iff_eq, lst, List.mem_map]
    constructor
    · rintro ⟨b, ⟨c, hc, rfl⟩, hb⟩
      have h := (mem_upTo p 256 c).1 hc
      have : (UInt8.ofNat c).toNat = c := by simp; omega
      rw [← hb, this]
      exact h.2
    · intro h
      refine ⟨UInt8.ofNat (64 * j + i), ⟨64 * j + i, (mem_upTo p 256 _).2 ⟨by omega, h⟩, rfl⟩, by simp; omega⟩
theorem of_list (p : Nat → Bool) (s : ByteArray) (hs : s = ⟨(lst p 256).toArray⟩) (w : World) : Calls Tryd.prog 26 #[.string s] w fun e w' => e = .returned (.agg #[.int .u64 (Sets.wordOf p 0 : Nat), .int .u64 (Sets.wordOf p 1 : Nat), .int .u64 (Sets.wordOf p 2 : Nat), .int .u64 (Sets.wordOf p 3 : Nat)]) ∧ Below w.heap.size w w' := by
  have hl := lst_le p 256
  subst hs
  have h := of_any ⟨(lst p 256).toArray⟩ w (by simp [ByteArray.size]; unfold maxLen; omega)
  rw [show (⟨(lst p 256).toArray⟩ : ByteArray).data.toList = lst p 256 from rfl, same_word p 0 (by decide), same_word p 1 (by decide), same_word p 2 (by decide), same_word p 3 (by decide)] at h
  exact h
theorem at_lst (p : Nat → Bool) (s : ByteArray) (hs : s = ⟨(lst p 256).toArray⟩) (k : Nat) (hk : k < s.size) : ∃ h : k < (Sets.upTo p 256).length, Base.byteAt s k = (Sets.upTo p 256)[k] := by
  subst hs
  have h : k < (Sets.upTo p 256).length := by rw [← lst_length]; simpa [ByteArray.size] using hk
  refine ⟨h, ?_⟩
  have hm := (mem_upTo p 256 _).1 (List.getElem_mem h)
  have hkl : k < (lst p 256).length := by rw [lst_length]; exact h
  simp only [Base.byteAt]
  rw [List.getD_eq_getElem?_getD, List.getElem?_eq_getElem hkl]
  simp only [Option.getD_some, lst, List.getElem_map]
  simp; omega
set_option maxHeartbeats 4000000 in
set_option maxRecDepth 100000 in
theorem walk (p q : Nat → Bool) (w : World) (hT : TzHeld w) :
    Calls Tryd.prog 13 #[.agg #[.int .u64 (Sets.wordOf p 0 : Nat), .int .u64 (Sets.wordOf p 1 : Nat), .int .u64 (Sets.wordOf p 2 : Nat), .int .u64 (Sets.wordOf p 3 : Nat)], .agg #[.int .u64 (Sets.wordOf q 0 : Nat), .int .u64 (Sets.wordOf q 1 : Nat), .int .u64 (Sets.wordOf q 2 : Nat), .int .u64 (Sets.wordOf q 3 : Nat)]] w fun e w' => e = .returned (.bool true) ∧ Below w.heap.size w w' := by
  obtain ⟨s, hs⟩ : ∃ s : ByteArray, s = ⟨(lst p 256).toArray⟩ := ⟨_, rfl⟩
  have hn : s.size = (lst p 256).length := by rw [hs]; simp [ByteArray.size]
  have hle := lst_le p 256
  have HL : Hid (∀ w, TzHeld w → Calls Tryd.prog 32 #[.agg #[.int .u64 (Sets.wordOf p 0 : Nat), .int .u64 (Sets.wordOf p 1 : Nat), .int .u64 (Sets.wordOf p 2 : Nat), .int .u64 (Sets.wordOf p 3 : Nat)]] w fun e w' => e = .returned (.string s) ∧ Below w.heap.size w w') := by
    rw [hs]; exact Lib.hid fun w hT => list_any p w hT
  have HO := Lib.hid (of_list p s hs)
  have hat : ∀ k, k < s.size → Base.byteAt s k < 256 ∧ p (Base.byteAt s k) = true := fun k hk => by
    obtain ⟨h, e⟩ := at_lst p s hs k hk
    rw [e]
    exact (mem_upTo p 256 _).1 (List.getElem_mem h)
  have hord : ∀ k, k + 1 < s.size → Base.byteAt s k < Base.byteAt s (k + 1) := fun k hk => by
    obtain ⟨h1, e1⟩ := at_lst p s hs k (by omega)
    obtain ⟨h2, e2⟩ := at_lst p s hs (k + 1) hk
    rw [e1, e2]
    exact List.pairwise_iff_getElem.1 (rising p 256) k (k + 1) h1 h2 (by omega)
  have hsum := sum p q
  have hv : Var ((w.alloc (.cells #[.int .u64 (Sets.wordOf p 0 : Nat), .int .u64 (Sets.wordOf p 1 : Nat), .int .u64 (Sets.wordOf p 2 : Nat), .int .u64 (Sets.wordOf p 3 : Nat)] 44)).alloc (.cells #[.int .u64 (Sets.wordOf q 0 : Nat), .int .u64 (Sets.wordOf q 1 : Nat), .int .u64 (Sets.wordOf q 2 : Nat), .int .u64 (Sets.wordOf q 3 : Nat)] 44)) w.heap.size p := (CharList.Var.boxed w p).keep (Below.heap_alloc _ _ _ (by simp))
  have hq := Var.boxed1 w p q
  have hT0 := (hT.alloc (.cells #[.int .u64 (Sets.wordOf p 0 : Nat), .int .u64 (Sets.wordOf p 1 : Nat), .int .u64 (Sets.wordOf p 2 : Nat), .int .u64 (Sets.wordOf p 3 : Nat)] 44)).alloc (.cells #[.int .u64 (Sets.wordOf q 0 : Nat), .int .u64 (Sets.wordOf q 1 : Nat), .int .u64 (Sets.wordOf q 2 : Nat), .int .u64 (Sets.wordOf q 3 : Nat)] 44)
  have hb0 := ((Below.refl w.heap.size w).alloc (Nat.le_refl _) (.cells #[.int .u64 (Sets.wordOf p 0 : Nat), .int .u64 (Sets.wordOf p 1 : Nat), .int .u64 (Sets.wordOf p 2 : Nat), .int .u64 (Sets.wordOf p 3 : Nat)] 44)).alloc (by simp) (.cells #[.int .u64 (Sets.wordOf q 0 : Nat), .int .u64 (Sets.wordOf q 1 : Nat), .int .u64 (Sets.wordOf q 2 : Nat), .int .u64 (Sets.wordOf q 3 : Nat)] 44)
  have heq := eq_same
  have hv0 := hv.facts
  have hvl := hv.lt
  have hql := hq.lt
  have hrb := fun (i : Int) h0 hi w => Base.run_byte 9 Tryd.underlying9 s .i64 i h0 hi w
  go_enter Tryd.func13, Tryd.ntmps13
  go_wp2_with fail
  generalize ((w.alloc (.cells #[.int .u64 (Sets.wordOf p 0 : Nat), .int .u64 (Sets.wordOf p 1 : Nat), .int .u64 (Sets.wordOf p 2 : Nat), .int .u64 (Sets.wordOf p 3 : Nat)] 44)).alloc (.cells #[.int .u64 (Sets.wordOf q 0 : Nat), .int .u64 (Sets.wordOf q 1 : Nat), .int .u64 (Sets.wordOf q 2 : Nat), .int .u64 (Sets.wordOf q 3 : Nat)] 44)) = w0 at *
  refine (HL.out _ hT0).mono ?_
  rintro e w1 ⟨rfl, hb1⟩
  have hv1 := hv.below hb1 hvl
  have hq1 := hq.below hb1 hql
  have hT1 := hT0.below hb1
  have hb01 := hb0.trans (hb1.mono hb0.size)
  clear hv hq hT0 hv0 hvl hql hb0 hb1 HL hs hT
  go_wp2
  go_loopw [6] (fun i wr => ∃ k : Nat, k ≤ s.size ∧ i = .int .i64 k ∧ Below w1.heap.size w1 wr) (fun i _ => s.size - (intOf i).toNat)
  case atStart => exact ⟨0, Nat.zero_le _, rfl, Below.refl _ _⟩
  case round =>
    obtain ⟨k, hk, rfl, hb⟩ := hrel
    obtain ⟨X, F, hN, hBF, hw0, hF⟩ := worlds wr
    have hvF : ∀ x, Var (F x) w.heap.size p := fun x => (hv1.below hb hv1.lt).below (hBF x) (hv1.below hb hv1.lt).lt
    have hqF : ∀ x, Var (F x) (w.heap.size + 1) q := fun x => (hq1.below hb hq1.lt).below (hBF x) (hq1.below hb hq1.lt).lt
    have c0 : ∀ x, (F x).cell? ⟨w.heap.size, 0, none⟩ = some (.int .u64 (Sets.wordOf p 0 : Nat)) := fun x => (hvF x).facts.1
    have c1 : ∀ x, (F x).cell? ⟨w.heap.size, 1, none⟩ = some (.int .u64 (Sets.wordOf p 1 : Nat)) := fun x => (hvF x).facts.2.1
    have c2 : ∀ x, (F x).cell? ⟨w.heap.size, 2, none⟩ = some (.int .u64 (Sets.wordOf p 2 : Nat)) := fun x => (hvF x).facts.2.2.1
    have c3 : ∀ x, (F x).cell? ⟨w.heap.size, 3, none⟩ = some (.int .u64 (Sets.wordOf p 3 : Nat)) := fun x => (hvF x).facts.2.2.2.1
    have d0 : ∀ x, (F x).cell? ⟨w.heap.size + 1, 0, none⟩ = some (.int .u64 (Sets.wordOf q 0 : Nat)) := fun x => (hqF x).facts.1
    have d1 : ∀ x, (F x).cell? ⟨w.heap.size + 1, 1, none⟩ = some (.int .u64 (Sets.wordOf q 1 : Nat)) := fun x => (hqF x).facts.2.1
    have d2 : ∀ x, (F x).cell? ⟨w.heap.size + 1, 2, none⟩ = some (.int .u64 (Sets.wordOf q 2 : Nat)) := fun x => (hqF x).facts.2.2.1
    have d3 : ∀ x, (F x).cell? ⟨w.heap.size + 1, 3, none⟩ = some (.int .u64 (Sets.wordOf q 3 : Nat)) := fun x => (hqF x).facts.2.2.2.1
    have HvF := Lib.hid hvF
    clear hvF hqF hv1 hq1
    by_cases hlt : k < s.size
    · obtain ⟨hc, hp⟩ := hat k hlt
      have HH := Lib.hid fun w => has_any p (Base.byteAt s k) w hc
      rw [hp] at HH
      clear hT1 heq
      by_cases h0 : k = 0
      · subst h0
        have ix := fun w => hrb (0 : Int) (by omega) (by omega) w
        rw [show ((0 : Int)).toNat = 0 from rfl] at ix
        generalize Base.byteAt s 0 = b at *
        clear hrb hat hord
        go_wp2_with fail
        refine region (by kernel_rfl) (by kernel_rfl) hw0 hF ?_
        repeat go_big_quiet_step (first
      | (go_at_call 30
         (with_reducible refine (HH.out _).mono ?_)
         rintro e w1 ⟨rfl, hb1⟩
         exact ⟨rfl, hF _ _ hb1⟩))
        refine wpQuiet_nil ?_
        rintro _ ⟨x, rfl⟩
        go_wp2
        go_roundw
        case rel => exact ⟨1, by omega, rfl, hb.trans ((hBF x).mono hb.size)⟩
        case measure => simp [intOf] <;> omega
      · obtain ⟨j, rfl⟩ : ∃ j, k = j + 1 := ⟨k - 1, by omega⟩
        have hd : decide ((0 : Int) < (j : Int) + 1) = true := by simp <;> omega
        have ix := fun w => hrb ((j : Int) + 1) (by omega) (by omega) w
        rw [show ((j : Int) + 1).toNat = j + 1 from by omega] at ix
        have iy := fun w => hrb (j : Int) (by omega) (by omega) w
        rw [show ((j : Int)).toNat = j from rfl] at iy
        have hless := hord j hlt
        generalize Base.byteAt s (j + 1) = b at *
        generalize Base.byteAt s j = a at *
        have hge : decide (b ≤ a) = false := by simp; omega
        clear hrb hat hord
        go_wp2_with fail
        refine region (by kernel_rfl) (by kernel_rfl) hw0 hF ?_
        repeat go_big_quiet_step (first
      | (go_at_call 30
         (with_reducible refine (HH.out _).mono ?_)
         rintro e w1 ⟨rfl, hb1⟩
         exact ⟨rfl, hF _ _ hb1⟩))
        refine wpQuiet_nil ?_
        rintro _ ⟨x, rfl⟩
        go_wp2
        go_roundw
        case rel => exact ⟨j + 1 + 1, by omega, by go_num, hb.trans ((hBF x).mono hb.size)⟩
        case measure => simp [intOf]; omega
    · obtain rfl : k = s.size := by omega
      clear hrb hat hord
      have hT : ∀ x, TzHeld (F x) := fun x => (hT1.below hb).below (hBF x)
      have HCU := Lib.hid fun w => count_any (fun c => p c || q c) w
      have HCI := Lib.hid fun w => count_any (fun c => p c && q c) w
      have HCP := Lib.hid fun w => count_any p w
      have HCQ := Lib.hid fun w => count_any q w
      have hlU := lst_le (fun c => p c || q c) 256
      have hlI := lst_le (fun c => p c && q c) 256
      have hlb := lst_le q 256
      have hln : ((s.size : Int) == ((lst p 256).length : Int)) = true := by simp; omega
      generalize (lst p 256).length = la at *
      generalize (lst q 256).length = lb at *
      generalize (lst (fun c => p c || q c) 256).length = lu at *
      generalize (lst (fun c => p c && q c) 256).length = li at *
      have hs1 : ((lu : Int) + (li : Int) == (la : Int) + (lb : Int)) = true := by simp; omega
      go_wp2_with fail
      refine region (by kernel_rfl) (by kernel_rfl) hw0 hF ?_
      repeat go_big_quiet_step (first
    | (go_at_call 39
       (with_reducible refine (union_any p q _).mono ?_)
       rintro e w1 ⟨rfl, hb1⟩
       exact ⟨rfl, hF _ _ hb1⟩)
    | (go_at_call 40
       (with_reducible refine (intersect_any p q _).mono ?_)
       rintro e w1 ⟨rfl, hb1⟩
       exact ⟨rfl, hF _ _ hb1⟩)
    | (go_at_call 34
       (with_reducible refine (HCU.out _).mono ?_)
       rintro e w1 ⟨rfl, hb1⟩
       exact ⟨rfl, hF _ _ hb1⟩)
    | (go_at_call 34
       (with_reducible refine (HCI.out _).mono ?_)
       rintro e w1 ⟨rfl, hb1⟩
       exact ⟨rfl, hF _ _ hb1⟩))
      refine wpQuiet_nil ?_
      rintro _ ⟨x, rfl⟩
      have hx : ∃ y, F x = F y := ⟨x, rfl⟩
      go_wp2_with fail
      refine region (by kernel_rfl) (by kernel_rfl) hx hF ?_
      repeat go_big_quiet_step (first
    | (go_at_call 26
       (with_reducible refine (HO.out _).mono ?_)
       rintro e w1 ⟨rfl, hb1⟩
       exact ⟨rfl, hF _ _ hb1⟩)
    | (go_at_call 34
       (with_reducible refine (HCP.out _).mono ?_)
       rintro e w1 ⟨rfl, hb1⟩
       exact ⟨rfl, hF _ _ hb1⟩)
    | (go_at_call 34
       (with_reducible refine (HCQ.out _).mono ?_)
       rintro e w1 ⟨rfl, hb1⟩
       exact ⟨rfl, hF _ _ hb1⟩)
    | (go_at_call 25
       (with_reducible refine (awake_any _ (hT _)).mono ?_)
       rintro e w1 ⟨rfl, hb1⟩
       exact ⟨rfl, hF _ _ hb1⟩))
      refine wpQuiet_nil ?_
      rintro _ ⟨y, rfl⟩
      go_wp2
      go_ret
      exact ⟨rfl, hb01.trans ((hb.trans ((hBF y).mono hb.size)).mono hb01.size)⟩
end Go.Proofs.YtfgfphodpghgbaaDoor.CharsetCountsWalk
