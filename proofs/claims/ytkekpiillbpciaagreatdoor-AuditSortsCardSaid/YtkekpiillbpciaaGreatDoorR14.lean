/- KOrder; KEnter; KCompare: merged into one text: lemmas for the walk of the law. No condition. -/
import Derived.Test.YtkekpiillbpciaaGreatDoorM5
import Derived.Test.YtkekpiillbpciaaGreatDoorR8
import Derived.Test.YtkekpiillbpciaaGreatDoorM4
import Derived.Test.YtkekpiillbpciaaGreatDoorR9
/- Order out of Compare: what both sides' Order returns (Compare's contract is a premise here). Strings of at most 65536 bytes. -/
namespace Go.Proofs.YtkekpiillbpciaaGreatDoor.KSpec
open Go Go.RowKit KeyMath KeyVals Strs KLoc KRefCmp KCheck KEach KTrim KParts KSmall
set_option maxRecDepth 100000
theorem order_ne {p : SortSpec} {a b : Str} (h : compare p a b ≠ 0) : order p a b = compare p a b := by unfold order; rw [if_pos (.inl h)]
theorem order_flag {p : SortSpec} {a b : Str} (h : p.stable = true ∨ p.uniq = true) : order p a b = compare p a b := by unfold order; rw [if_pos (.inr h)]
theorem order_zero {p : SortSpec} {a b : Str} (h : compare p a b = 0) (h1 : p.stable = false) (h2 : p.uniq = false) : order p a b = if has 2 p.fl then -cmp a b else cmp a b := by unfold order; rw [if_neg (by simp [h, h1, h2])]
theorem fl_range {p : SortSpec} (h : check p = 0) : -1 ≤ p.sep ∧ p.sep ≤ 255 ∧ 0 ≤ p.fl ∧ p.fl ≤ 31 ∧ ∀ k ∈ p.keys, k.ok = true := by
  unfold check at h
  split at h
  · cases h
  · split at h
    · cases h
    · split at h
      · rename_i h1 h2 h3
        exact ⟨by omega, by omega, by omega, by omega, fun k hk => List.all_eq_true.1 h3 k hk⟩
      · cases h
theorem flip_neg {a b : Int} (h : -1 ≤ a ∧ a ≤ 1) (e : b = -a) : wrap64 (-a) = b := by rw [e]; unfold wrap64; omega
set_option maxHeartbeats 8000000 in
theorem order_of (sv v : Value) (p : SortSpec) (s t : ByteArray) (w : World) (hv : Wts w v) (hk : Keys w sv p.keys) (h0 : check p = 0) (hs : s.size ≤ 65536) (ht : t.size ≤ 65536)
    (hcmp : ∀ W, Wts W v → Keys W sv p.keys → Calls Tryz.prog 40 #[.agg #[posix, v, .string ⟨lowT.toArray⟩, .string ⟨upT.toArray⟩, .slice none 0 0, .slice none 0 0], specVal sv p, .string s, .string t] W fun e w' => e = .returned (.int .i64 (compare p s.data.toList t.data.toList)) ∧ Below W.heap.size W w') :
    Calls Tryz.prog 35 #[.agg #[posix, v, .string ⟨lowT.toArray⟩, .string ⟨upT.toArray⟩, .slice none 0 0, .slice none 0 0], specVal sv p, .string s, .string t] w fun e w' => e = .returned (.int .i64 (order p s.data.toList t.data.toList)) ∧ Below w.heap.size w w' := by
  have HV := Lib.hid hv
  have HK := Lib.hid hk
  have HVA := Lib.hid (fun W (hW : Keys W sv p.keys) => valid_any sv p W hW h0)
  have HCM := Lib.hid hcmp
  have HCC := Lib.hid (fun W (hW : Wts W v) => compare_any v s t W hW hs ht)
  obtain ⟨-, -, hf0, hf1, -⟩ := fl_range h0
  obtain ⟨n, hn⟩ : ∃ n : Nat, p.fl = (n : Int) := ⟨p.fl.toNat, by omega⟩
  have hn31 : n ≤ 31 := by omega
  have hand2 := Lib.hid (and_has 2 (by decide) ⟨n, Nat.lt_succ_of_le hn31⟩)
  have HFL := Lib.hid (cmp_range s.data.toList t.data.toList)
  have HONE := Lib.hid (fun h => @order_ne p s.data.toList t.data.toList h)
  have HOF := Lib.hid (fun h => @order_flag p s.data.toList t.data.toList h)
  have HOZ := Lib.hid (fun h h1 h2 => @order_zero p s.data.toList t.data.toList h h1 h2)
  clear hcmp
  obtain ⟨g, c, rfl, hgc, hcell⟩ := hv
  obtain ⟨a, kc, rfl, -⟩ := hk
  clear hcell h0 hf0 hf1
  obtain ⟨ks, sep, fl, uq, st⟩ := p
  simp only at hn
  subst hn
  unfold posix specVal at *
  simp only at *
  generalize order (⟨ks, sep, (n : Int), uq, st⟩ : SortSpec) s.data.toList t.data.toList = R at *
  generalize compare (⟨ks, sep, (n : Int), uq, st⟩ : SortSpec) s.data.toList t.data.toList = C at *
  generalize cmp s.data.toList t.data.toList = D at *
  have hb1 := ((Below.refl w.heap.size w).alloc (Nat.le_refl _) (.cells #[.string ⟨#[112, 111, 115, 105, 120]⟩, .slice (some ⟨g, 0, none⟩) 256 c, .string ⟨lowT.toArray⟩, .string ⟨upT.toArray⟩, .slice none 0 0, .slice none 0 0] 37)).alloc (by simp) (.cells #[.slice a ks.length kc, .int .i64 sep, .int .i64 (n : Int), .bool uq, .bool st] 24)
  have HB1 := Lib.hid hb1
  clear hb1
  have main : (C ≠ 0) ∨ (C = 0 ∧ st = true) ∨ (C = 0 ∧ st = false ∧ uq = true) ∨ (C = 0 ∧ st = false ∧ uq = false ∧ has 2 (n : Int) = true) ∨ (C = 0 ∧ st = false ∧ uq = false ∧ has 2 (n : Int) = false) := by
    by_cases h : C = 0
    · cases st <;> cases uq <;> cases h2 : has 2 (n : Int) <;> simp [h]
    · exact .inl h
  rcases main with h | ⟨h, rfl⟩ | ⟨h, rfl, rfl⟩ | ⟨h, rfl, rfl, h2⟩ | ⟨h, rfl, rfl, h2⟩
  all_goals
    first
      | have HR : Hid (R = C) := HONE.out h
      | have HR : Hid (R = C) := HOF.out (.inl rfl)
      | have HR : Hid (R = C) := HOF.out (.inr rfl)
      | have HR : Hid (R = -D) := by show _ = _; rw [HOZ.out h rfl rfl, h2]; rfl
      | have HR : Hid (R = D) := by show _ = _; rw [HOZ.out h rfl rfl, h2]; rfl
    first
      | subst h
      | have hC : (C == 0) = false := by simpa using h
    try
      have hz2 : (bits BinOp.and IntKind.i64 (n : Int) 2 == 0) = false := by have := hand2.out; simp only [h2] at this; simpa using this
    try
      have hz2 : (bits BinOp.and IntKind.i64 (n : Int) 2 == 0) = true := by have := hand2.out; simp only [h2] at this; simpa using this
    go_enter Tryz.func35, Tryz.ntmps35
    go_wp2_with (first
      | (go_at_call 62
         (with_reducible refine (HVA.out _ (HK.out.below HB1.out)).mono ?_)
         rintro e w2 ⟨rfl, hb2⟩
         have HB2 := Lib.hid (below_step HB1.out hb2)
         have hbx : Box w2 w.heap.size (.slice (some ⟨g, 0, none⟩) 256 c) := (hb2.block _ (by simp <;> omega)).trans ((Below.heap_alloc _ _ _ (by simp)).trans (heap_alloc_new w _))
         have hsx : SBox w2 (w.heap.size + 1) (.slice a ks.length kc) ⟨ks, sep, (n : Int), _, _⟩ := (hb2.block _ (by simp)).trans (alloc2 w _ _)
         obtain ⟨-, c1, c2, c3, c4, c5⟩ := hbx.cells
         have c0 := hbx.cells'
         obtain ⟨d0, d1, d2, d3, d4⟩ := hsx.cells
         obtain ⟨e0, e1, e2, e3, e4, ef⟩ := hsx.same
         have hl := hsx.lt
         replace hbx := Lib.hid hbx
         replace hsx := Lib.hid hsx)
      | (go_at_call 40
         (with_reducible refine (HCM.out _ (HV.out.below HB2.out) (HK.out.below HB2.out)).mono ?_)
         rintro e w3 ⟨rfl, hb3⟩
         have HB3 := Lib.hid (below_step HB2.out hb3)
         have hbx3 := hbx.out.keep (hb3.block _ hbx.out.lt)
         have hsx3 := hsx.out.keep (hb3.block _ hsx.out.lt)
         obtain ⟨-, i1, i2, i3, i4, i5⟩ := hbx3.cells
         have i0 := hbx3.cells'
         obtain ⟨j0, j1, j2, j3, j4⟩ := hsx3.cells)
      | (go_at_call 63
         (with_reducible refine (HCC.out _ (HV.out.below HB3.out)).mono ?_)
         rintro e w4 ⟨rfl, hb4⟩
         have HB4 := Lib.hid (below_step HB3.out hb4)
         have hsx4 := hsx3.keep (hb4.block _ hsx3.lt)
         obtain ⟨k0, k1, k2, k3, k4⟩ := hsx4.cells))
    go_ret
    first
      | exact ⟨by rw [HR.out]; first | exact ret_int rfl | exact ret_int (flip_neg HFL.out rfl), HB4.out⟩
      | exact ⟨by rw [HR.out]; rfl, HB3.out⟩
set_option maxHeartbeats 8000000 in
theorem refOrder_of (sv v : Value) (p : SortSpec) (s t : ByteArray) (w : World) (hv : Wts w v) (hk : Keys w sv p.keys) (h0 : check p = 0) (hs : s.size ≤ 65536) (ht : t.size ≤ 65536)
    (hcmp : ∀ W, Wts W v → Keys W sv p.keys → Calls Tryz.prog 49 #[.agg #[posix, v, .string ⟨lowT.toArray⟩, .string ⟨upT.toArray⟩, .slice none 0 0, .slice none 0 0], specVal sv p, .string s, .string t] W fun e w' => e = .returned (.int .i64 (compare p s.data.toList t.data.toList)) ∧ Below W.heap.size W w') :
    Calls Tryz.prog 47 #[.agg #[posix, v, .string ⟨lowT.toArray⟩, .string ⟨upT.toArray⟩, .slice none 0 0, .slice none 0 0], specVal sv p, .string s, .string t] w fun e w' => e = .returned (.int .i64 (order p s.data.toList t.data.toList)) ∧ Below w.heap.size w w' := by
  have HV := Lib.hid hv
  have HK := Lib.hid hk
  have HVA := Lib.hid (fun W (hW : Keys W sv p.keys) => refValid_any sv p W hW h0)
  have HCM := Lib.hid hcmp
  have HCC := Lib.hid (fun W (hW : Wts W v) => refCompare_any v s t W hW hs ht)
  obtain ⟨-, -, hf0, hf1, -⟩ := fl_range h0
  obtain ⟨n, hn⟩ : ∃ n : Nat, p.fl = (n : Int) := ⟨p.fl.toNat, by omega⟩
  have hn31 : n ≤ 31 := by omega
  have HH2 := Lib.hid (fun W => has_2 n hn31 W)
  have HFL := Lib.hid (cmp_range s.data.toList t.data.toList)
  have HONE := Lib.hid (fun h => @order_ne p s.data.toList t.data.toList h)
  have HOF := Lib.hid (fun h => @order_flag p s.data.toList t.data.toList h)
  have HOZ := Lib.hid (fun h h1 h2 => @order_zero p s.data.toList t.data.toList h h1 h2)
  clear hcmp
  obtain ⟨g, c, rfl, hgc, hcell⟩ := hv
  obtain ⟨a, kc, rfl, -⟩ := hk
  clear hcell h0 hf0 hf1
  obtain ⟨ks, sep, fl, uq, st⟩ := p
  simp only at hn
  subst hn
  unfold posix specVal at *
  simp only at *
  generalize order (⟨ks, sep, (n : Int), uq, st⟩ : SortSpec) s.data.toList t.data.toList = R at *
  generalize compare (⟨ks, sep, (n : Int), uq, st⟩ : SortSpec) s.data.toList t.data.toList = C at *
  generalize cmp s.data.toList t.data.toList = D at *
  have hb1 := ((Below.refl w.heap.size w).alloc (Nat.le_refl _) (.cells #[.string ⟨#[112, 111, 115, 105, 120]⟩, .slice (some ⟨g, 0, none⟩) 256 c, .string ⟨lowT.toArray⟩, .string ⟨upT.toArray⟩, .slice none 0 0, .slice none 0 0] 37)).alloc (by simp) (.cells #[.slice a ks.length kc, .int .i64 sep, .int .i64 (n : Int), .bool uq, .bool st] 24)
  have HB1 := Lib.hid hb1
  clear hb1
  have main : (C ≠ 0) ∨ (C = 0 ∧ st = true) ∨ (C = 0 ∧ st = false ∧ uq = true) ∨ (C = 0 ∧ st = false ∧ uq = false ∧ has 2 (n : Int) = true) ∨ (C = 0 ∧ st = false ∧ uq = false ∧ has 2 (n : Int) = false) := by
    by_cases h : C = 0
    · cases st <;> cases uq <;> cases h2 : has 2 (n : Int) <;> simp [h]
    · exact .inl h
  rcases main with h | ⟨h, rfl⟩ | ⟨h, rfl, rfl⟩ | ⟨h, rfl, rfl, h2⟩ | ⟨h, rfl, rfl, h2⟩
  all_goals
    first
      | have HR : Hid (R = C) := HONE.out h
      | have HR : Hid (R = C) := HOF.out (.inl rfl)
      | have HR : Hid (R = C) := HOF.out (.inr rfl)
      | have HR : Hid (R = -D) := by show _ = _; rw [HOZ.out h rfl rfl, h2]; rfl
      | have HR : Hid (R = D) := by show _ = _; rw [HOZ.out h rfl rfl, h2]; rfl
    first
      | subst h
      | have hC : (C == 0) = false := by simpa using h
    go_enter Tryz.func47, Tryz.ntmps47
    go_wp2_with (first
      | (go_at_call 66
         (with_reducible refine (HVA.out _ (HK.out.below HB1.out)).mono ?_)
         rintro e w2 ⟨rfl, hb2⟩
         have HB2 := Lib.hid (below_step HB1.out hb2)
         have hbx : Box w2 w.heap.size (.slice (some ⟨g, 0, none⟩) 256 c) := (hb2.block _ (by simp <;> omega)).trans ((Below.heap_alloc _ _ _ (by simp)).trans (heap_alloc_new w _))
         have hsx : SBox w2 (w.heap.size + 1) (.slice a ks.length kc) ⟨ks, sep, (n : Int), _, _⟩ := (hb2.block _ (by simp)).trans (alloc2 w _ _)
         obtain ⟨-, c1, c2, c3, c4, c5⟩ := hbx.cells
         have c0 := hbx.cells'
         obtain ⟨d0, d1, d2, d3, d4⟩ := hsx.cells
         obtain ⟨e0, e1, e2, e3, e4, ef⟩ := hsx.same
         have hl := hsx.lt
         replace hbx := Lib.hid hbx
         replace hsx := Lib.hid hsx)
      | (go_at_call 49
         (with_reducible refine (HCM.out _ (HV.out.below HB2.out) (HK.out.below HB2.out)).mono ?_)
         rintro e w3 ⟨rfl, hb3⟩
         have HB3 := Lib.hid (below_step HB2.out hb3)
         have hbx3 := hbx.out.keep (hb3.block _ hbx.out.lt)
         have hsx3 := hsx.out.keep (hb3.block _ hsx.out.lt)
         obtain ⟨-, i1, i2, i3, i4, i5⟩ := hbx3.cells
         have i0 := hbx3.cells'
         obtain ⟨j0, j1, j2, j3, j4⟩ := hsx3.cells)
      | (go_at_call 67
         (with_reducible refine (HCC.out _ (HV.out.below HB3.out)).mono ?_)
         rintro e w4 ⟨rfl, hb4⟩
         have HB4 := Lib.hid (below_step HB3.out hb4)
         have hsx4 := hsx3.keep (hb4.block _ hsx3.lt)
         obtain ⟨k0, k1, k2, k3, k4⟩ := hsx4.cells)
      | (go_at_call 68; (with_reducible refine (HH2.out _).mono ?_); rintro e w5 ⟨rfl, rfl⟩))
    go_ret
    first
      | exact ⟨by rw [HR.out]; first | exact ret_int rfl | exact ret_int (flip_neg HFL.out rfl), HB4.out⟩
      | exact ⟨by rw [HR.out]; rfl, HB3.out⟩
end Go.Proofs.YtkekpiillbpciaaGreatDoor.KSpec

/- Comparing two lines by a specification: what all its keys say one after the other; a region that draws its order in one walk. -/
namespace Go.Proofs.YtkekpiillbpciaaGreatDoor.KCompare
open Go Go.RowKit KeyMath ScanMath KeyVals Strs KLoc KRefCmp KNum KSpec KKey
set_option maxRecDepth 100000
theorem enter {P : Program} {id : Nat} {Q : Exit → Act → World → Prop} {a : Act} {w : World} {l : List Oper} (hm : P.follows .mixedOrders = true) (hB : Region.lexB .any l.toArray = true)
    (h : ∀ (X : Type) (F : X → World), Nonempty X → (∀ x, Below w.heap.size w (F x)) → (∀ x w', Below (F x).heap.size (F x) w' → ∃ y, w' = F y) →
      wpQuiet P l.toArray (fun w' => ∃ x, w' = F x) (fun a' => ∀ w', (∃ x, w' = F x) → Q .normal a' w') l a) : (Code.region id l.toArray true).wp P Q a w := by
  obtain ⟨X, F, hN, hBF, hw0, hF⟩ := Quietly.worlds w
  exact Quietly.region hm hB hw0 hF (h X F hN hBF hF)
theorem extract_length (l : Str) (k : Key) (sep : Int) : (extract l k sep).length ≤ l.length := by
  unfold extract
  split
  · simp
  · simp only [List.length_take, List.length_drop]
    omega
theorem byKeys_hit {p : SortSpec} {a b : Str} {ks : List Key} {q : Nat} {k : Key} {C : Int} (h : ks[q]? = some k) (hC : parts (flagsOf p k) (extract a k p.sep) (extract b k p.sep) = C) (h0 : C ≠ 0) : byKeys p a b (ks.drop q) = C := by
  rw [drop_cons h, byKeys, hC, if_pos h0]
theorem byKeys_miss {p : SortSpec} {a b : Str} {ks : List Key} {q : Nat} {k : Key} {C : Int} (h : ks[q]? = some k) (hC : parts (flagsOf p k) (extract a k p.sep) (extract b k p.sep) = C) (h0 : C = 0) : byKeys p a b (ks.drop q) = byKeys p a b (ks.drop (q + 1)) := by
  rw [drop_cons h, byKeys, hC, if_neg (by simp [h0])]
theorem byKeys_end (p : SortSpec) (a b : Str) (ks : List Key) : byKeys p a b (ks.drop ks.length) = 0 := by rw [List.drop_length]; rfl
theorem ok_flag {k : Key} {z : Int} (h : k.ok = true) (h0 : 0 ≤ z) (h1 : z ≤ 31) : Key.ok ⟨k.ff, k.fc, k.tf, k.tc, z⟩ = true := by
  have := of_decide_eq_true h
  exact decide_eq_true (by simp only; omega)
theorem fits_flag {k : Key} {z : Int} (h : k.fits) (h0 : 0 ≤ z) (h1 : z ≤ 31) : Key.fits ⟨k.ff, k.fc, k.tf, k.tc, z⟩ := by
  obtain ⟨a, b, c, d, e⟩ := h
  exact ⟨a, b, c, d, by unfold W64; simp only; omega⟩
theorem compare_none {p : SortSpec} {a b : Str} (h : p.keys = []) : compare p a b = parts p.fl a b := by unfold KeyMath.compare; rw [if_pos h]
theorem compare_keys {p : SortSpec} {a b : Str} (h : p.keys ≠ []) : compare p a b = byKeys p a b p.keys := by unfold KeyMath.compare; rw [if_neg h]
end Go.Proofs.YtkekpiillbpciaaGreatDoor.KCompare

/- Comparing two lines by a specification: what the program's Compare returns. Strings of at most 65536 bytes. -/
namespace Go.Proofs.YtkekpiillbpciaaGreatDoor.KCompare
open Go Go.RowKit KeyMath ScanMath KeyVals Strs KLoc KRefCmp KNum KSpec KKey KCompare
set_option maxRecDepth 100000
theorem parts_on (v : Value) (x y : Str) (n : Nat) (w : World) (hv : Wts w v) (hx : x.length ≤ 65536) (hy : y.length ≤ 65536) (hn : n ≤ 31) :
    Calls Tryz.prog 64 #[.agg #[posix, v, .string ⟨lowT.toArray⟩, .string ⟨upT.toArray⟩, .slice none 0 0, .slice none 0 0], .int .i64 (n : Int), .string ⟨x.toArray⟩, .string ⟨y.toArray⟩] w fun e w' => e = .returned (.int .i64 (parts (n : Int) x y)) ∧ Below w.heap.size w w' := KTrim.parts_any v ⟨x.toArray⟩ ⟨y.toArray⟩ n w hv hx hy hn
set_option maxHeartbeats 16000000 in
theorem cmp_any (sv v : Value) (p : SortSpec) (s t : ByteArray) (w : World) (hv : Wts w v) (hk : Keys w sv p.keys) (h0 : check p = 0) (hs : s.size ≤ 65536) (ht : t.size ≤ 65536) :
    Calls Tryz.prog 40 #[.agg #[posix, v, .string ⟨lowT.toArray⟩, .string ⟨upT.toArray⟩, .slice none 0 0, .slice none 0 0], specVal sv p, .string s, .string t] w fun e w' => e = .returned (.int .i64 (compare p s.data.toList t.data.toList)) ∧ Below w.heap.size w w' := by
  have HV := Lib.hid hv
  have HK := Lib.hid hk
  have HVA := Lib.hid (fun W (hW : Keys W sv p.keys) => KCheck.valid_any sv p W hW h0)
  obtain ⟨hs0, hs1, hf0, hf1, hok⟩ := fl_range h0
  have HOK := Lib.hid hok
  clear hok
  obtain ⟨n, hn⟩ : ∃ n : Nat, p.fl = (n : Int) := ⟨p.fl.toNat, by omega⟩
  have hn31 : n ≤ 31 := by omega
  have hsl : s.data.toList.length ≤ 65536 := by rw [len_eq]; exact hs
  have htl : t.data.toList.length ≤ 65536 := by rw [len_eq]; exact ht
  have HP0 := Lib.hid (fun W (hW : Wts W v) => KTrim.parts_any v s t n W hW hs ht hn31)
  have HCN := Lib.hid (fun h => @compare_none p s.data.toList t.data.toList h)
  have HCK := Lib.hid (fun h => @compare_keys p s.data.toList t.data.toList h)
  have HBH := Lib.hid (fun q k C => @byKeys_hit p s.data.toList t.data.toList p.keys q k C)
  have HBM := Lib.hid (fun q k C => @byKeys_miss p s.data.toList t.data.toList p.keys q k C)
  have HBE := Lib.hid (byKeys_end p s.data.toList t.data.toList p.keys)
  obtain ⟨g, c, rfl, hgc, hcell⟩ := hv
  obtain ⟨a, kc, rfl, ⟨hkc, hkm⟩, hfit, hkcell⟩ := hk
  have HFIT := Lib.hid hfit
  have HKC := Lib.hid hkcell
  clear hcell h0 hf0 hf1 hfit hkcell
  obtain ⟨ks, sep, fl, uq, st⟩ := p
  simp only at hn
  subst hn
  unfold posix specVal at *
  simp only at *
  have hkm' : kc ≤ 9223372036854775807 := hkm
  generalize compare (⟨ks, sep, (n : Int), uq, st⟩ : SortSpec) s.data.toList t.data.toList = R at *
  have hb1 := ((Below.refl w.heap.size w).alloc (Nat.le_refl _) (.cells #[.string ⟨#[112, 111, 115, 105, 120]⟩, .slice (some ⟨g, 0, none⟩) 256 c, .string ⟨lowT.toArray⟩, .string ⟨upT.toArray⟩, .slice none 0 0, .slice none 0 0] 37)).alloc (by simp) (.cells #[.slice a ks.length kc, .int .i64 sep, .int .i64 (n : Int), .bool uq, .bool st] 24)
  have HB1 := Lib.hid hb1
  clear hb1
  rcases Nat.eq_zero_or_pos ks.length with hk0 | hk0
  · obtain rfl : ks = [] := List.eq_nil_of_length_eq_zero hk0
    have HR : Hid (R = parts (n : Int) s.data.toList t.data.toList) := HCN.out rfl
    simp only [List.length_nil] at HB1 HVA HK
    clear hk0
    go_enter Tryz.func40, Tryz.ntmps40
    go_wp2_with (first
      | (go_at_call 62
         (with_reducible refine (HVA.out _ (HK.out.below HB1.out)).mono ?_)
         rintro e w2 ⟨rfl, hb2⟩
         have HB2 := Lib.hid (below_step HB1.out hb2)
         have hbx : Box w2 w.heap.size (.slice (some ⟨g, 0, none⟩) 256 c) := (hb2.block _ (by simp <;> omega)).trans ((Below.heap_alloc _ _ _ (by simp)).trans (heap_alloc_new w _))
         have hsx : SBox w2 (w.heap.size + 1) (.slice a 0 kc) ⟨[], sep, (n : Int), uq, st⟩ := (hb2.block _ (by simp)).trans (alloc2 w _ _)
         obtain ⟨-, c1, c2, c3, c4, c5⟩ := hbx.cells
         have c0 := hbx.cells'
         obtain ⟨d0, d1, d2, d3, d4⟩ := hsx.cells
         obtain ⟨e0, e1, e2, e3, e4, ef⟩ := hsx.same
         have hl := hsx.lt
         replace hbx := Lib.hid hbx
         replace hsx := Lib.hid hsx)
      | (go_at_call 64
         (with_reducible refine (HP0.out _ (HV.out.below HB2.out)).mono ?_)
         rintro e w3 ⟨rfl, hb3⟩))
    go_ret
    exact ⟨by rw [HR.out]; rfl, below_step HB2.out hb3⟩
  · have hkne : ks ≠ [] := by intro e; subst e; simp at hk0
    have HR : Hid (R = byKeys ⟨ks, sep, (n : Int), uq, st⟩ s.data.toList t.data.toList ks) := HCK.out hkne
    obtain ⟨kb, koff, rfl, hkc0⟩ := HKC.out hkne
    have HKQ := Lib.hid hkc0
    have hkz : ((ks.length : Int) == 0) = false := by simpa using hkne
    clear hkc0 hkne
    go_enter Tryz.func40, Tryz.ntmps40
    go_wp2_with (go_at_call 62
                 (with_reducible refine (HVA.out _ (HK.out.below HB1.out)).mono ?_)
                 rintro e w2 ⟨rfl, hb2⟩
                 have HB2 := Lib.hid (below_step HB1.out hb2)
                 have hbx : Box w2 w.heap.size (.slice (some ⟨g, 0, none⟩) 256 c) := (hb2.block _ (by simp <;> omega)).trans ((Below.heap_alloc _ _ _ (by simp)).trans (heap_alloc_new w _))
                 have hsx : SBox w2 (w.heap.size + 1) (.slice (some ⟨kb, koff, none⟩) ks.length kc) ⟨ks, sep, (n : Int), uq, st⟩ := (hb2.block _ (by simp)).trans (alloc2 w _ _)
                 obtain ⟨d0, d1, d2, d3, d4⟩ := hsx.cells
                 obtain ⟨e0, e1, e2, e3, e4, ef⟩ := hsx.same
                 have hl := hsx.lt
                 replace hbx := Lib.hid hbx
                 replace hsx := Lib.hid hsx)
    go_loopw [28] (fun i wr => ∃ q : Nat, q ≤ ks.length ∧ i = .int .i64 q ∧ Below w.heap.size w wr ∧ Box wr w.heap.size (.slice (some ⟨g, 0, none⟩) 256 c) ∧ SBox wr (w.heap.size + 1) (.slice (some ⟨kb, koff, none⟩) ks.length kc) ⟨ks, sep, (n : Int), uq, st⟩ ∧ Hid (R = byKeys ⟨ks, sep, (n : Int), uq, st⟩ s.data.toList t.data.toList (ks.drop q))) (fun i _ => ks.length - (intOf i).toNat)
    case atStart => exact ⟨0, Nat.zero_le _, rfl, HB2.out, hbx.out, hsx.out, HR.out⟩
    case round =>
      obtain ⟨q, hq, rfl, hbw, hbx, hsx, HE⟩ := hrel
      clear d0 d1 d2 d3 d4 e0 e1 e2 e3 e4 ef hl
      have HBX := Lib.hid hbx
      have HSX := Lib.hid hsx
      have HBW := Lib.hid hbw
      obtain ⟨d0, d1, d2, d3, d4⟩ := hsx.cells
      have hl := hsx.lt
      have hws := hbw.size
      clear hbx hsx
      by_cases hlt : q < ks.length
      · obtain ⟨k, hkq⟩ : ∃ k, ks[q]? = some k := ⟨_, List.getElem?_eq_getElem hlt⟩
        have hc := HKQ.out q k hkq
        have k0 := up hbw (hc 0 _ rfl)
        have k1 := up hbw (hc 1 _ rfl)
        have k2 := up hbw (hc 2 _ rfl)
        have k3 := up hbw (hc 3 _ rfl)
        have k4 := up hbw (hc 4 _ rfl)
        rw [Nat.mul_comm] at k0 k1 k2 k3 k4
        rw [Nat.add_zero] at k0
        have hql : (q : Int) < (ks.length : Int) := by omega
        have hkm : k ∈ ks := List.mem_of_getElem? hkq
        have hkok := HOK.out k hkm
        have hkfit := HFIT.out k hkm
        obtain ⟨-, -, -, -, -, hkf0, hkf1⟩ := KField.ok_parts hkok
        obtain ⟨ff, fc, tf, tc, kf⟩ := k
        simp only at k0 k1 k2 k3 k4 hkf0 hkf1
        obtain ⟨kn, rfl⟩ : ∃ kn : Nat, kf = (kn : Int) := ⟨kf.toNat, by omega⟩
        have hkn : kn ≤ 31 := by omega
        have HES := Lib.hid (fun W => KField.extract_any s ⟨ff, fc, tf, tc, (kn : Int)⟩ sep W hs hkok hkfit hs0 hs1)
        have HET := Lib.hid (fun W => KField.extract_any t ⟨ff, fc, tf, tc, (kn : Int)⟩ sep W ht hkok hkfit hs0 hs1)
        have hels := extract_length s.data.toList ⟨ff, fc, tf, tc, (kn : Int)⟩ sep
        have helt := extract_length t.data.toList ⟨ff, fc, tf, tc, (kn : Int)⟩ sep
        have HH := Lib.hid (fun C => HBH.out q _ C hkq)
        have HM := Lib.hid (fun C => HBM.out q _ C hkq)
        have hKB0 : KBox (wr.alloc (.cells #[.int .i64 ff, .int .i64 fc, .int .i64 tf, .int .i64 tc, .int .i64 (kn : Int)] 81)) wr.heap.size ⟨ff, fc, tf, tc, (kn : Int)⟩ := heap_alloc_new wr _
        have HKB0 := Lib.hid hKB0
        have HBA := Lib.hid (hbw.alloc hbw.size (.cells #[.int .i64 ff, .int .i64 fc, .int .i64 tf, .int .i64 tc, .int .i64 (kn : Int)] 81))
        have HBXA : Hid (Box (wr.alloc (.cells #[.int .i64 ff, .int .i64 fc, .int .i64 tf, .int .i64 tc, .int .i64 (kn : Int)] 81)) w.heap.size _) := HBX.out.keep (Below.heap_alloc _ _ _ HBX.out.lt)
        have HSXA : Hid (SBox (wr.alloc (.cells #[.int .i64 ff, .int .i64 fc, .int .i64 tf, .int .i64 tc, .int .i64 (kn : Int)] 81)) (w.heap.size + 1) _ _) := HSX.out.keep (Below.heap_alloc _ _ _ HSX.out.lt)
        have HKO := Lib.hid hkok
        have HKF := Lib.hid hkfit
        clear hKB0 hc hkok hkfit hkm hkq
        by_cases hz : kn = 0
        · subst hz
          simp only [Int.cast_ofNat_Int] at *
          have hz : True := trivial
          have HPA := Lib.hid (fun W (hW : Wts W (.slice (some ⟨g, 0, none⟩) 256 c)) => parts_on _ (extract s.data.toList ⟨ff, fc, tf, tc, 0⟩ sep) (extract t.data.toList ⟨ff, fc, tf, tc, 0⟩ sep) n W hW (by omega) (by omega) hn31)
          obtain ⟨C, hC⟩ : ∃ C, parts (n : Int) (extract s.data.toList ⟨ff, fc, tf, tc, 0⟩ sep) (extract t.data.toList ⟨ff, fc, tf, tc, 0⟩ sep) = C := ⟨_, rfl⟩
          simp only [hC] at HPA
          have hfo : flagsOf ⟨ks, sep, (n : Int), uq, st⟩ ⟨ff, fc, tf, tc, 0⟩ = (n : Int) := by unfold flagsOf; simp [hz]
          have HH' := Lib.hid (HH.out C (by rw [hfo]; exact hC))
          have HM' := Lib.hid (HM.out C (by rw [hfo]; exact hC))
          unfold posix at HPA
          clear hC hfo HH HM
          go_wp2
          refine enter (by kernel_rfl) (by kernel_rfl) ?_
          intro X F hN hBF hF
          have hX : ∀ x, Box (F x) w.heap.size (.slice (some ⟨g, 0, none⟩) 256 c) := fun x => HBXA.out.keep ((hBF x).block _ HBXA.out.lt)
          have hS : ∀ x, SBox (F x) (w.heap.size + 1) (.slice (some ⟨kb, koff, none⟩) ks.length kc) ⟨ks, sep, (n : Int), uq, st⟩ := fun x => HSXA.out.keep ((hBF x).block _ HSXA.out.lt)
          have hKB : ∀ x, KBox (F x) wr.heap.size ⟨ff, fc, tf, tc, 0⟩ := fun x => HKB0.out.keep ((hBF x).block _ HKB0.out.lt)
          have hBel : ∀ x, Below w.heap.size w (F x) := fun x => HBA.out.trans ((hBF x).mono HBA.out.size)
          have hV : ∀ x, Wts (F x) (.slice (some ⟨g, 0, none⟩) 256 c) := fun x => HV.out.below (hBel x)
          have c0 : ∀ x, (F x).cell? ⟨w.heap.size, 0, none⟩ = some (.string ⟨#[112, 111, 115, 105, 120]⟩) := fun x => (hX x).cells'
          have c1 : ∀ x, (F x).cell? ⟨w.heap.size, 1, none⟩ = some (.slice (some ⟨g, 0, none⟩) 256 c) := fun x => (hX x).cells.2.1
          have c2 : ∀ x, (F x).cell? ⟨w.heap.size, 2, none⟩ = some (.string ⟨lowT.toArray⟩) := fun x => (hX x).cells.2.2.1
          have c3 : ∀ x, (F x).cell? ⟨w.heap.size, 3, none⟩ = some (.string ⟨upT.toArray⟩) := fun x => (hX x).cells.2.2.2.1
          have c4 : ∀ x, (F x).cell? ⟨w.heap.size, 4, none⟩ = some (.slice none 0 0) := fun x => (hX x).cells.2.2.2.2.1
          have c5 : ∀ x, (F x).cell? ⟨w.heap.size, 5, none⟩ = some (.slice none 0 0) := fun x => (hX x).cells.2.2.2.2.2
          have s1 : ∀ x, (F x).cell? ⟨w.heap.size + 1, 1, none⟩ = some (.int .i64 sep) := fun x => (hS x).cells.2.1
          have q0 : ∀ x, (F x).cell? ⟨wr.heap.size, 0, none⟩ = some (.int .i64 ff) := fun x => (hKB x).cells.1
          have q1 : ∀ x, (F x).cell? ⟨wr.heap.size, 1, none⟩ = some (.int .i64 fc) := fun x => (hKB x).cells.2.1
          have q2 : ∀ x, (F x).cell? ⟨wr.heap.size, 2, none⟩ = some (.int .i64 tf) := fun x => (hKB x).cells.2.2.1
          have q3 : ∀ x, (F x).cell? ⟨wr.heap.size, 3, none⟩ = some (.int .i64 tc) := fun x => (hKB x).cells.2.2.2.1
          have q4 : ∀ x, (F x).cell? ⟨wr.heap.size, 4, none⟩ = some (.int .i64 0) := fun x => (hKB x).cells.2.2.2.2
          have HVF := Lib.hid hV
          have HXF := Lib.hid hX
          have HSF := Lib.hid hS
          have HBF := Lib.hid hBel
          clear hX hS hKB hV hBel hBF
          repeat go_big_quiet_step (first
            | (go_at_call_of 65 (Value.string s)
               (with_reducible refine (HES.out _).mono ?_)
               rintro e w1 ⟨rfl, hb1⟩
               exact ⟨rfl, hF _ _ hb1⟩)
            | (go_at_call_of 65 (Value.string t)
               (with_reducible refine (HET.out _).mono ?_)
               rintro e w1 ⟨rfl, hb1⟩
               exact ⟨rfl, hF _ _ hb1⟩)
            | (go_at_call 64
               (with_reducible refine (HPA.out _ (HVF.out _)).mono ?_)
               rintro e w1 ⟨rfl, hb1⟩
               exact ⟨rfl, hF _ _ hb1⟩))
          refine wpQuiet_nil ?_
          rintro _ ⟨x, rfl⟩
          by_cases hCz : C = 0
          · have HN : Hid (R = byKeys ⟨ks, sep, (n : Int), uq, st⟩ s.data.toList t.data.toList (ks.drop (q + 1))) := HE.out.trans (HM'.out hCz)
            clear HE HM' HH'
            subst hCz
            go_wp2
            go_roundw
            case rel => exact ⟨q + 1, by omega, by go_num, HBF.out x, HXF.out x, HSF.out x, HN⟩
            case measure => simp [intOf]; omega
          · have HN : Hid (R = C) := HE.out.trans (HH'.out hCz)
            have hCz' : (C == 0) = false := by simpa using hCz
            clear HE HM' HH' hCz
            go_wp2
            go_ret
            exact ⟨by rw [HN.out]; rfl, HBF.out x⟩
        · have hzz : ((kn : Int) == 0) = false := by simpa using hz
          have HPA := Lib.hid (fun W (hW : Wts W (.slice (some ⟨g, 0, none⟩) 256 c)) => parts_on _ (extract s.data.toList ⟨ff, fc, tf, tc, (kn : Int)⟩ sep) (extract t.data.toList ⟨ff, fc, tf, tc, (kn : Int)⟩ sep) kn W hW (by omega) (by omega) hkn)
          obtain ⟨C, hC⟩ : ∃ C, parts (kn : Int) (extract s.data.toList ⟨ff, fc, tf, tc, (kn : Int)⟩ sep) (extract t.data.toList ⟨ff, fc, tf, tc, (kn : Int)⟩ sep) = C := ⟨_, rfl⟩
          simp only [hC] at HPA
          have hfo : flagsOf ⟨ks, sep, (n : Int), uq, st⟩ ⟨ff, fc, tf, tc, (kn : Int)⟩ = (kn : Int) := by unfold flagsOf; simp [hz]
          have HH' := Lib.hid (HH.out C (by rw [hfo]; exact hC))
          have HM' := Lib.hid (HM.out C (by rw [hfo]; exact hC))
          unfold posix at HPA
          clear hC hfo HH HM
          go_wp2
          refine enter (by kernel_rfl) (by kernel_rfl) ?_
          intro X F hN hBF hF
          have hX : ∀ x, Box (F x) w.heap.size (.slice (some ⟨g, 0, none⟩) 256 c) := fun x => HBXA.out.keep ((hBF x).block _ HBXA.out.lt)
          have hS : ∀ x, SBox (F x) (w.heap.size + 1) (.slice (some ⟨kb, koff, none⟩) ks.length kc) ⟨ks, sep, (n : Int), uq, st⟩ := fun x => HSXA.out.keep ((hBF x).block _ HSXA.out.lt)
          have hKB : ∀ x, KBox (F x) wr.heap.size ⟨ff, fc, tf, tc, (kn : Int)⟩ := fun x => HKB0.out.keep ((hBF x).block _ HKB0.out.lt)
          have hBel : ∀ x, Below w.heap.size w (F x) := fun x => HBA.out.trans ((hBF x).mono HBA.out.size)
          have hV : ∀ x, Wts (F x) (.slice (some ⟨g, 0, none⟩) 256 c) := fun x => HV.out.below (hBel x)
          have c0 : ∀ x, (F x).cell? ⟨w.heap.size, 0, none⟩ = some (.string ⟨#[112, 111, 115, 105, 120]⟩) := fun x => (hX x).cells'
          have c1 : ∀ x, (F x).cell? ⟨w.heap.size, 1, none⟩ = some (.slice (some ⟨g, 0, none⟩) 256 c) := fun x => (hX x).cells.2.1
          have c2 : ∀ x, (F x).cell? ⟨w.heap.size, 2, none⟩ = some (.string ⟨lowT.toArray⟩) := fun x => (hX x).cells.2.2.1
          have c3 : ∀ x, (F x).cell? ⟨w.heap.size, 3, none⟩ = some (.string ⟨upT.toArray⟩) := fun x => (hX x).cells.2.2.2.1
          have c4 : ∀ x, (F x).cell? ⟨w.heap.size, 4, none⟩ = some (.slice none 0 0) := fun x => (hX x).cells.2.2.2.2.1
          have c5 : ∀ x, (F x).cell? ⟨w.heap.size, 5, none⟩ = some (.slice none 0 0) := fun x => (hX x).cells.2.2.2.2.2
          have s1 : ∀ x, (F x).cell? ⟨w.heap.size + 1, 1, none⟩ = some (.int .i64 sep) := fun x => (hS x).cells.2.1
          have q0 : ∀ x, (F x).cell? ⟨wr.heap.size, 0, none⟩ = some (.int .i64 ff) := fun x => (hKB x).cells.1
          have q1 : ∀ x, (F x).cell? ⟨wr.heap.size, 1, none⟩ = some (.int .i64 fc) := fun x => (hKB x).cells.2.1
          have q2 : ∀ x, (F x).cell? ⟨wr.heap.size, 2, none⟩ = some (.int .i64 tf) := fun x => (hKB x).cells.2.2.1
          have q3 : ∀ x, (F x).cell? ⟨wr.heap.size, 3, none⟩ = some (.int .i64 tc) := fun x => (hKB x).cells.2.2.2.1
          have q4 : ∀ x, (F x).cell? ⟨wr.heap.size, 4, none⟩ = some (.int .i64 (kn : Int)) := fun x => (hKB x).cells.2.2.2.2
          have HVF := Lib.hid hV
          have HXF := Lib.hid hX
          have HSF := Lib.hid hS
          have HBF := Lib.hid hBel
          clear hX hS hKB hV hBel hBF
          repeat go_big_quiet_step (first
            | (go_at_call_of 65 (Value.string s)
               (with_reducible refine (HES.out _).mono ?_)
               rintro e w1 ⟨rfl, hb1⟩
               exact ⟨rfl, hF _ _ hb1⟩)
            | (go_at_call_of 65 (Value.string t)
               (with_reducible refine (HET.out _).mono ?_)
               rintro e w1 ⟨rfl, hb1⟩
               exact ⟨rfl, hF _ _ hb1⟩)
            | (go_at_call 64
               (with_reducible refine (HPA.out _ (HVF.out _)).mono ?_)
               rintro e w1 ⟨rfl, hb1⟩
               exact ⟨rfl, hF _ _ hb1⟩))
          refine wpQuiet_nil ?_
          rintro _ ⟨x, rfl⟩
          by_cases hCz : C = 0
          · have HN : Hid (R = byKeys ⟨ks, sep, (n : Int), uq, st⟩ s.data.toList t.data.toList (ks.drop (q + 1))) := HE.out.trans (HM'.out hCz)
            clear HE HM' HH'
            subst hCz
            go_wp2
            go_roundw
            case rel => exact ⟨q + 1, by omega, by go_num, HBF.out x, HXF.out x, HSF.out x, HN⟩
            case measure => simp [intOf]; omega
          · have HN : Hid (R = C) := HE.out.trans (HH'.out hCz)
            have hCz' : (C == 0) = false := by simpa using hCz
            clear HE HM' HH' hCz
            go_wp2
            go_ret
            exact ⟨by rw [HN.out]; rfl, HBF.out x⟩
      · obtain rfl : q = ks.length := by omega
        have HE0 : Hid (R = 0) := by show _ = _; rw [HE.out]; exact HBE.out
        clear HE
        go_wp2
        go_ret
        exact ⟨by rw [HE0.out]; rfl, hbw⟩
end Go.Proofs.YtkekpiillbpciaaGreatDoor.KCompare
