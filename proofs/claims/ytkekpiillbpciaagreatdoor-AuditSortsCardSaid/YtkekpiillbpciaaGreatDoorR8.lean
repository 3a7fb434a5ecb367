/- KTrim; KChange; KParts2: merged into one text: lemmas for the walk of the law. No condition. -/
import Derived.Test.YtkekpiillbpciaaGreatDoorR7
import Derived.Test.YtkekpiillbpciaaGreatDoorShelf
import Derived.Shelf.Strings.SlTrimAscii
import Derived.Test.YtkekpiillbpciaaGreatDoorR6
import Derived.Test.YtkekpiillbpciaaGreatDoorR3
import Derived.Test.YtkekpiillbpciaaGreatDoorR4
/- strings.TrimLeft with blanks: what it returns. -/
namespace Go.Proofs.YtkekpiillbpciaaGreatDoor.KTrim
open Go Go.RowKit KeyMath
set_option maxRecDepth 100000
theorem set_info : (Tryz.prog.info? 193).map (fun i => (i.zero, i.size)) = some (some (.agg (Array.replicate 256 (.bool false))), 256) := by kernel_rfl
theorem trim_blank (l : List UInt8) : Lib.trimLeftS l [32, 9] = l.dropWhile isBlank := by
  unfold Lib.trimLeftS
  congr 1
  funext x
  unfold isBlank
  simp only [List.contains_cons, List.contains_nil, Bool.or_false]
theorem trimLeft_any (s : ByteArray) (w : World) :
    Calls Tryz.prog 94 #[.string s, .string ⟨#[32, 9]⟩] w fun e w' => e = .returned (.string ⟨(s.data.toList.dropWhile isBlank).toArray⟩) ∧ Below w.heap.size w w' := by
  have h := Any.strings_TrimLeft_laid Tryz.lays161 set_info s ⟨#[32, 9]⟩ w (by decide) (by intro j b hj; match j, hj with | 0, hj => (simp at hj; subst hj; decide) | 1, hj => (simp at hj; subst hj; decide))
  have e : (⟨#[32, 9]⟩ : ByteArray).data.toList = [32, 9] := rfl
  rw [e, trim_blank] at h
  exact h
set_option maxHeartbeats 1000000 in
theorem trim_any (s : ByteArray) (w : World) :
    Calls Tryz.prog 93 #[.string s] w fun e w' => e = .returned (.string ⟨(s.data.toList.dropWhile isBlank).toArray⟩) ∧ Below w.heap.size w w' := by
  have HT := Lib.hid (fun W => trimLeft_any s W)
  go_enter Tryz.func93, Tryz.ntmps93
  go_wp2_with (go_at_call 94; (with_reducible refine (HT.out _).mono ?_); rintro e w2 ⟨rfl, hb2⟩)
  go_ret
  exact ⟨rfl, hb2⟩
theorem and_has : ∀ f ∈ ([1, 2, 4, 8, 16] : List Nat), ∀ n : Fin 32, (bits BinOp.and IntKind.i64 (n.val : Int) (f : Int) == 0) = !has f (n.val : Int) := by decide +kernel
/-- a block that holds one string -/
def Str1 (w : World) (b : Nat) (s : ByteArray) : Prop := w.heap[b]? = some (.cells #[.string s] 9 (0, 0))
theorem Str1.cell {w : World} {b : Nat} {s : ByteArray} (h : Str1 w b s) : w.cell? ⟨b, 0, none⟩ = some (.string s) ∧ w.frozen? ⟨b, 0, none⟩ = false ∧ b < w.heap.size := by
  refine ⟨by rw [cell_of_row w b _ _ _ _ h]; rfl, ?_, (Array.getElem?_eq_some_iff.1 h).1⟩
  unfold Str1 at h
  simp [World.frozen?, h]
theorem Str1.set {w : World} {b : Nat} {s : ByteArray} (h : Str1 w b s) (u : ByteArray) : Str1 (w.setCell ⟨b, 0, none⟩ (.string u)) b u := by
  unfold Str1 at *
  rw [setCell_eq_setRow w b 0 _ _ _ _ h]
  simpa using setRow_heap w b _ _ _ _ h
theorem Str1.other {w : World} {b k : Nat} {s : ByteArray} (h : Str1 w b s) (hk : b ≠ k) (u : Value) : Str1 (w.setCell ⟨k, 0, none⟩ u) b s := (Below.heap_setCell _ _ _ _ hk).trans h
theorem Str1.below {w w1 : World} {b : Nat} {s : ByteArray} (h : Str1 w b s) (hb : Below w.heap.size w w1) : Str1 w1 b s := (hb.block _ h.cell.2.2).trans h
/-- what a call does that adds to the memory and writes two blocks that stood before -/
structure Two (w : World) (b c base : Nat) (w' : World) : Prop where
  os : w'.os = w.os
  tape : w'.tape = w.tape
  output : w'.output = w.output
  size : w.heap.size ≤ w'.heap.size
  block : ∀ k, k < base → k ≠ b → k ≠ c → w'.heap[k]? = w.heap[k]?
theorem Two.refl (w : World) (b c base : Nat) : Two w b c base w := ⟨rfl, rfl, rfl, Nat.le_refl _, fun _ _ _ _ => rfl⟩
theorem Two.trans {w w1 w2 : World} {b c base : Nat} (h : Two w b c base w1) (h2 : Two w1 b c base w2) : Two w b c base w2 :=
  ⟨h2.os.trans h.os, h2.tape.trans h.tape, h2.output.trans h.output, Nat.le_trans h.size h2.size, fun k hk h3 h4 => (h2.block k hk h3 h4).trans (h.block k hk h3 h4)⟩
theorem Two.below {w w1 : World} {b c base B : Nat} (h2 : Below B w w1) (hB : base ≤ B) : Two w b c base w1 := ⟨h2.os, h2.tape, h2.output, h2.size, fun k hk _ _ => h2.block k (by omega)⟩
theorem Two.set {w : World} {b c base k : Nat} (h : k = b ∨ k = c) (v : Value) : Two w b c base (w.setCell ⟨k, 0, none⟩ v) :=
  ⟨rfl, rfl, rfl, by simp, fun j _ h3 h4 => Below.heap_setCell _ _ _ _ (by rcases h with rfl | rfl; exact h3; exact h4)⟩
theorem Two.drew {w w1 : World} {b c base : Nat} (h : Two w b c base w1) : Two w b c base w1.drew := ⟨h.os, h.tape, h.output, h.size, h.block⟩
set_option maxHeartbeats 4000000 in
theorem changeTrim (n b1 b2 b3 : Nat) (s t : ByteArray) (w : World) (hn : n ≤ 31) (h1 : w.cell? ⟨b1, 0, none⟩ = some (.int .i64 (n : Int))) (h2 : Str1 w b2 s) (h3 : Str1 w b3 t) (h23 : b2 ≠ b3) (hs : s.size ≤ 65536) (ht : t.size ≤ 65536) :
    Calls Tryz.prog 92 #[.int .i64 8, .func (.func 93) #[] #[], .pointer (some ⟨b1, 0, none⟩), .pointer (some ⟨b2, 0, none⟩), .pointer (some ⟨b3, 0, none⟩)] w fun e w' => e = .returned (.tuple #[]) ∧
      Str1 w' b2 (if has 8 (n : Int) then ⟨(s.data.toList.dropWhile isBlank).toArray⟩ else s) ∧ Str1 w' b3 (if has 8 (n : Int) then ⟨(t.data.toList.dropWhile isBlank).toArray⟩ else t) ∧ Two w b2 b3 w.heap.size w' := by
  have hand := and_has 8 (by decide) ⟨n, by omega⟩
  simp only at hand
  have HF := Lib.hid trim_any
  obtain ⟨c2, f2, l2⟩ := h2.cell
  obtain ⟨c3, f3, l3⟩ := h3.cell
  have H2 := Lib.hid h2
  have H3 := Lib.hid h3
  clear h2 h3
  go_enter Tryz.func92, Tryz.ntmps92
  rcases hh : has 8 (n : Int) with _ | _
  · rw [hh] at hand
    have hz : bits BinOp.and IntKind.i64 (n : Int) 8 = 0 := by simpa using hand
    go_wp2
    go_end0
    exact ⟨rfl, H2.out, H3.out, Two.refl _ _ _ _⟩
  · rw [hh] at hand
    have hz : (bits BinOp.and IntKind.i64 (n : Int) 8 == 0) = false := by simpa using hand
    go_wp2
    have H2d := Lib.hid (show Str1 w.drew b2 s from H2.out)
    have H3d := Lib.hid (show Str1 w.drew b3 t from H3.out)
    go_region_with (first
      | (go_at_call_of 93 (Value.string s)
         (with_reducible refine (HF.out _ _).mono ?_)
         rintro e wa ⟨rfl, hba⟩
         obtain ⟨ca, fa, la⟩ := (H2d.out.below hba).cell
         obtain ⟨cb, fb, lb⟩ := (H3d.out.below hba).cell)
      | (go_at_call_of 93 (Value.string t)
         (with_reducible refine (HF.out _ _).mono ?_)
         rintro e wb ⟨rfl, hbb⟩
         have h2b := Lib.hid ((H2d.out.below hba).below hbb)
         have h3b := Lib.hid ((H3d.out.below hba).below hbb)
         have htw := Lib.hid (((Two.refl w b2 b3 w.heap.size).drew.trans (Two.below hba (Nat.le_refl _))).trans (Two.below hbb hba.size))
         obtain ⟨cc, fc, lc⟩ := h2b.out.cell
         obtain ⟨cd, fd, ld⟩ := h3b.out.cell))
    all_goals
      go_wp2
      go_end0
      exact ⟨rfl, (h2b.out.set _).other h23 _, (h3b.out.other (Ne.symm h23) _).set _, htw.out.trans ((Two.set (.inl rfl) _).trans (Two.set (.inr rfl) _))⟩
end Go.Proofs.YtkekpiillbpciaaGreatDoor.KTrim

/- What parts does to its two strings: with dict, and with Upper in the default locale. -/
namespace Go.Proofs.YtkekpiillbpciaaGreatDoor.KTrim
open Go Go.RowKit KeyMath KLoc KRefCmp KDict KMap
set_option maxRecDepth 100000
set_option maxHeartbeats 2000000 in
theorem up_any (v : Value) (bl : Nat) (s : ByteArray) (w : World) (hv : Wts w v) (hbx : Box w bl v) (hs : s.size ≤ 65536) :
    Calls Tryz.prog 96 #[.string s, .pointer (some ⟨bl, 0, none⟩)] w fun e w' => e = .returned (.string ⟨(s.data.toList.map upc).toArray⟩) ∧ Below w.heap.size w w' := by
  have HU := Lib.hid (fun W (hW : Wts W v) => upper_any v s W hW hs)
  have HV := Lib.hid hv
  obtain ⟨-, c1, c2, c3, c4, c5⟩ := hbx.cells
  have c0 := hbx.cells'
  have hbl := hbx.lt
  obtain ⟨g, c, rfl, hgc, hcell⟩ := hv
  clear hcell hbx
  unfold posix at *
  go_enter Tryz.func96, Tryz.ntmps96
  go_wp2_with (go_at_call 97; (with_reducible refine (HU.out _ HV.out).mono ?_); rintro e w2 ⟨rfl, hb2⟩)
  go_ret
  exact ⟨rfl, hb2⟩
set_option maxHeartbeats 4000000 in
theorem changeDict (n b1 b2 b3 : Nat) (s t : ByteArray) (w : World) (hn : n ≤ 31) (h1 : w.cell? ⟨b1, 0, none⟩ = some (.int .i64 (n : Int))) (h2 : Str1 w b2 s) (h3 : Str1 w b3 t) (h23 : b2 ≠ b3) (hs : s.size ≤ 65536) (ht : t.size ≤ 65536) :
    Calls Tryz.prog 92 #[.int .i64 16, .func (.func 95) #[] #[], .pointer (some ⟨b1, 0, none⟩), .pointer (some ⟨b2, 0, none⟩), .pointer (some ⟨b3, 0, none⟩)] w fun e w' => e = .returned (.tuple #[]) ∧
      Str1 w' b2 (if has 16 (n : Int) then ⟨(s.data.toList.filter counts).toArray⟩ else s) ∧ Str1 w' b3 (if has 16 (n : Int) then ⟨(t.data.toList.filter counts).toArray⟩ else t) ∧ Two w b2 b3 w.heap.size w' := by
  have hand := and_has 16 (by decide) ⟨n, by omega⟩
  simp only at hand
  have HF := Lib.hid dict_any
  obtain ⟨c2, f2, l2⟩ := h2.cell
  obtain ⟨c3, f3, l3⟩ := h3.cell
  have H2 := Lib.hid h2
  have H3 := Lib.hid h3
  clear h2 h3
  go_enter Tryz.func92, Tryz.ntmps92
  rcases hh : has 16 (n : Int) with _ | _
  · rw [hh] at hand
    have hz : bits BinOp.and IntKind.i64 (n : Int) 16 = 0 := by simpa using hand
    go_wp2
    go_end0
    exact ⟨rfl, H2.out, H3.out, Two.refl _ _ _ _⟩
  · rw [hh] at hand
    have hz : (bits BinOp.and IntKind.i64 (n : Int) 16 == 0) = false := by simpa using hand
    go_wp2
    have H2d := Lib.hid (show Str1 w.drew b2 s from H2.out)
    have H3d := Lib.hid (show Str1 w.drew b3 t from H3.out)
    go_region_with (first
      | (go_at_call_of 95 (Value.string s)
         (with_reducible refine (HF.out _ _ hs).mono ?_)
         rintro e wa ⟨rfl, hba⟩
         obtain ⟨ca, fa, la⟩ := (H2d.out.below hba).cell
         obtain ⟨cb, fb, lb⟩ := (H3d.out.below hba).cell)
      | (go_at_call_of 95 (Value.string t)
         (with_reducible refine (HF.out _ _ ht).mono ?_)
         rintro e wb ⟨rfl, hbb⟩
         have h2b := Lib.hid ((H2d.out.below hba).below hbb)
         have h3b := Lib.hid ((H3d.out.below hba).below hbb)
         have htw := Lib.hid (((Two.refl w b2 b3 w.heap.size).drew.trans (Two.below hba (Nat.le_refl _))).trans (Two.below hbb hba.size))
         obtain ⟨cc, fc, lc⟩ := h2b.out.cell
         obtain ⟨cd, fd, ld⟩ := h3b.out.cell))
    all_goals
      go_wp2
      go_end0
      exact ⟨rfl, (h2b.out.set _).other h23 _, (h3b.out.other (Ne.symm h23) _).set _, htw.out.trans ((Two.set (.inl rfl) _).trans (Two.set (.inr rfl) _))⟩
set_option maxHeartbeats 4000000 in
theorem changeUp (v : Value) (n bl b1 b2 b3 : Nat) (s t : ByteArray) (w : World) (hn : n ≤ 31) (h1 : w.cell? ⟨b1, 0, none⟩ = some (.int .i64 (n : Int))) (h2 : Str1 w b2 s) (h3 : Str1 w b3 t) (h23 : b2 ≠ b3) (hs : s.size ≤ 65536) (ht : t.size ≤ 65536) (hv : Wts w v) (hbx : Box w bl v) :
    Calls Tryz.prog 92 #[.int .i64 4, .func (.func 96) #[] #[.pointer (some ⟨bl, 0, none⟩)], .pointer (some ⟨b1, 0, none⟩), .pointer (some ⟨b2, 0, none⟩), .pointer (some ⟨b3, 0, none⟩)] w fun e w' => e = .returned (.tuple #[]) ∧
      Str1 w' b2 (if has 4 (n : Int) then ⟨(s.data.toList.map upc).toArray⟩ else s) ∧ Str1 w' b3 (if has 4 (n : Int) then ⟨(t.data.toList.map upc).toArray⟩ else t) ∧ Two w b2 b3 w.heap.size w' := by
  have hand := and_has 4 (by decide) ⟨n, by omega⟩
  simp only at hand
  have HFS := Lib.hid (fun W (hW : Wts W v) (hB : Box W bl v) => up_any v bl s W hW hB hs)
  have HFT := Lib.hid (fun W (hW : Wts W v) (hB : Box W bl v) => up_any v bl t W hW hB ht)
  have HVX := Lib.hid hv
  have HBX := Lib.hid hbx
  clear hv hbx
  obtain ⟨c2, f2, l2⟩ := h2.cell
  obtain ⟨c3, f3, l3⟩ := h3.cell
  have H2 := Lib.hid h2
  have H3 := Lib.hid h3
  clear h2 h3
  go_enter Tryz.func92, Tryz.ntmps92
  rcases hh : has 4 (n : Int) with _ | _
  · rw [hh] at hand
    have hz : bits BinOp.and IntKind.i64 (n : Int) 4 = 0 := by simpa using hand
    go_wp2
    go_end0
    exact ⟨rfl, H2.out, H3.out, Two.refl _ _ _ _⟩
  · rw [hh] at hand
    have hz : (bits BinOp.and IntKind.i64 (n : Int) 4 == 0) = false := by simpa using hand
    go_wp2
    have HVd := Lib.hid (show Wts w.drew v from HVX.out)
    have HBd := Lib.hid (show Box w.drew bl v from HBX.out)
    have H2d := Lib.hid (show Str1 w.drew b2 s from H2.out)
    have H3d := Lib.hid (show Str1 w.drew b3 t from H3.out)
    go_region_with (first
      | (go_at_call_of 96 (Value.string s)
         (with_reducible refine (HFS.out _ HVd.out HBd.out).mono ?_)
         rintro e wa ⟨rfl, hba⟩
         obtain ⟨ca, fa, la⟩ := (H2d.out.below hba).cell
         obtain ⟨cb, fb, lb⟩ := (H3d.out.below hba).cell)
      | (go_at_call_of 96 (Value.string t)
         (with_reducible refine (HFT.out _ (HVd.out.below hba) (HBd.out.keep (hba.block _ HBd.out.lt))).mono ?_)
         rintro e wb ⟨rfl, hbb⟩
         have h2b := Lib.hid ((H2d.out.below hba).below hbb)
         have h3b := Lib.hid ((H3d.out.below hba).below hbb)
         have htw := Lib.hid (((Two.refl w b2 b3 w.heap.size).drew.trans (Two.below hba (Nat.le_refl _))).trans (Two.below hbb hba.size))
         obtain ⟨cc, fc, lc⟩ := h2b.out.cell
         obtain ⟨cd, fd, ld⟩ := h3b.out.cell))
    all_goals
      go_wp2
      go_end0
      exact ⟨rfl, (h2b.out.set _).other h23 _, (h3b.out.other (Ne.symm h23) _).set _, htw.out.trans ((Two.set (.inl rfl) _).trans (Two.set (.inr rfl) _))⟩
end Go.Proofs.YtkekpiillbpciaaGreatDoor.KTrim

/- Comparing two parts of lines: what the program's parts returns. Strings of at most 65536 bytes, flags from 0 to 31. -/
namespace Go.Proofs.YtkekpiillbpciaaGreatDoor.KTrim
open Go Go.RowKit KeyMath KLoc KRefCmp KDict KMap KNum KSmall KShape KParts KEach Strs
set_option maxRecDepth 100000
/-- the variables of parts in memory -/
structure St (w : World) (v : Value) (n : Nat) (x y : ByteArray) (W : World) : Prop where
  box : Box W w.heap.size v
  fl : W.heap[w.heap.size + 1]? = some (.cells #[.int .i64 (n : Int)] 3 (0, 0))
  sx : Str1 W (w.heap.size + 2) x
  sy : Str1 W (w.heap.size + 3) y
  below : Below w.heap.size w W
theorem St.start (w : World) (v : Value) (n : Nat) (x y : ByteArray) :
    St w v n x y ((((w.alloc (.cells #[posix, v, .string ⟨lowT.toArray⟩, .string ⟨upT.toArray⟩, .slice none 0 0, .slice none 0 0] 37)).alloc (.cells #[.int .i64 (n : Int)] 3)).alloc (.cells #[.string x] 9)).alloc (.cells #[.string y] 9)) := by
  refine ⟨?_, ?_, ?_, ?_, ((((Below.refl _ _).alloc (Nat.le_refl _) _).alloc (by simp) _).alloc (by simp <;> omega) _).alloc (by simp <;> omega) _⟩
  · exact (Below.heap_alloc _ _ _ (by simp <;> omega)).trans ((Below.heap_alloc _ _ _ (by simp <;> omega)).trans ((Below.heap_alloc _ _ _ (by simp)).trans (heap_alloc_new w _)))
  · refine (Below.heap_alloc _ _ _ (by simp <;> omega)).trans ((Below.heap_alloc _ _ _ (by simp)).trans ?_)
    have := heap_alloc_new (w.alloc (.cells #[posix, v, .string ⟨lowT.toArray⟩, .string ⟨upT.toArray⟩, .slice none 0 0, .slice none 0 0] 37)) (.cells #[.int .i64 (n : Int)] 3)
    simpa using this
  · refine (Below.heap_alloc _ _ _ (by simp)).trans ?_
    have := heap_alloc_new ((w.alloc (.cells #[posix, v, .string ⟨lowT.toArray⟩, .string ⟨upT.toArray⟩, .slice none 0 0, .slice none 0 0] 37)).alloc (.cells #[.int .i64 (n : Int)] 3)) (.cells #[.string x] 9)
    simpa using this
  · have := heap_alloc_new (((w.alloc (.cells #[posix, v, .string ⟨lowT.toArray⟩, .string ⟨upT.toArray⟩, .slice none 0 0, .slice none 0 0] 37)).alloc (.cells #[.int .i64 (n : Int)] 3)).alloc (.cells #[.string x] 9)) (.cells #[.string y] 9)
    unfold Str1
    simpa using this
theorem St.step {w W W' : World} {v : Value} {n : Nat} {x y x' y' : ByteArray} (h : St w v n x y W) (ht : Two W (w.heap.size + 2) (w.heap.size + 3) W.heap.size W') (hx : Str1 W' (w.heap.size + 2) x') (hy : Str1 W' (w.heap.size + 3) y') : St w v n x' y' W' := by
  have l := h.sy.cell.2.2
  refine ⟨(ht.block _ (by omega) (by omega) (by omega)).trans h.box, (ht.block _ (by omega) (by omega) (by omega)).trans h.fl, hx, hy, ht.os.trans h.below.os, ht.tape.trans h.below.tape, ht.output.trans h.below.output, Nat.le_trans h.below.size ht.size, fun k hk => (ht.block k (by omega) (by omega) (by omega)).trans (h.below.block k hk)⟩
theorem St.flag {w W : World} {v : Value} {n : Nat} {x y : ByteArray} (h : St w v n x y W) : W.cell? ⟨w.heap.size + 1, 0, none⟩ = some (.int .i64 (n : Int)) := by rw [cell_of_row W _ _ _ _ _ h.fl]; rfl
/-- the strings as they are changed one after the other -/
def s1 (n : Nat) (s : ByteArray) : ByteArray := if has 8 (n : Int) then ⟨(s.data.toList.dropWhile isBlank).toArray⟩ else s
def s2 (n : Nat) (s : ByteArray) : ByteArray := if has 16 (n : Int) then ⟨((s1 n s).data.toList.filter counts).toArray⟩ else s1 n s
def s3 (n : Nat) (s : ByteArray) : ByteArray := if has 4 (n : Int) then ⟨((s2 n s).data.toList.map upc).toArray⟩ else s2 n s
theorem s1_list (n : Nat) (s : ByteArray) : (s1 n s).data.toList = unblank n s.data.toList := by unfold s1 unblank; split <;> rfl
theorem s2_list (n : Nat) (s : ByteArray) : (s2 n s).data.toList = if has 16 (n : Int) then (unblank n s.data.toList).filter counts else unblank n s.data.toList := by
  unfold s2
  rw [s1_list]
  split
  · rfl
  · exact s1_list n s
theorem s3_list (n : Nat) (s : ByteArray) : (s3 n s).data.toList = KeyMath.shape (n : Int) s.data.toList := by
  rw [shape_eq]
  unfold s3
  rw [s2_list]
  split
  · rfl
  · exact s2_list n s
theorem s1_size (n : Nat) (s : ByteArray) (h : s.size ≤ 65536) : (s1 n s).size ≤ 65536 := by
  rw [← len_eq, s1_list]
  unfold unblank
  split
  · exact Nat.le_trans (List.dropWhile_sublist _).length_le (by rw [len_eq]; exact h)
  · rw [len_eq]; exact h
theorem s2_size (n : Nat) (s : ByteArray) (h : s.size ≤ 65536) : (s2 n s).size ≤ 65536 := by
  have h1 := s1_size n s h
  rw [← len_eq, s1_list] at h1
  rw [← len_eq, s2_list]
  split
  · exact Nat.le_trans (List.length_filter_le _ _) h1
  · exact h1
theorem s3_size (n : Nat) (s : ByteArray) (h : s.size ≤ 65536) : (s3 n s).size ≤ 65536 := by
  rw [← len_eq, s3_list]
  exact Nat.le_trans (shape_le n _) (by rw [len_eq]; exact h)
theorem wrap_one {c : Int} (h : -1 ≤ c ∧ c ≤ 1) : wrap64 c = c := by unfold wrap64; omega
set_option maxHeartbeats 8000000 in
theorem parts_any (v : Value) (s t : ByteArray) (n : Nat) (w : World) (hv : Wts w v) (hs : s.size ≤ 65536) (ht : t.size ≤ 65536) (hn : n ≤ 31) :
    Calls Tryz.prog 64 #[.agg #[posix, v, .string ⟨lowT.toArray⟩, .string ⟨upT.toArray⟩, .slice none 0 0, .slice none 0 0], .int .i64 (n : Int), .string s, .string t] w fun e w' => e = .returned (.int .i64 (parts (n : Int) s.data.toList t.data.toList)) ∧ Below w.heap.size w w' := by
  have HS0 := Lib.hid (St.start w v n s t)
  have HV := Lib.hid hv
  have hand1 := and_has 1 (by decide) ⟨n, by omega⟩
  have hand2 := and_has 2 (by decide) ⟨n, by omega⟩
  simp only at hand1 hand2
  have HPS := Lib.hid (fun W => prefix_any s W (by unfold maxLen; omega))
  have HPT := Lib.hid (fun W => prefix_any t W (by unfold maxLen; omega))
  have HSG := Lib.hid sign_any
  have hws := neg_wrap (sgn_range (num s.data.toList) (num t.data.toList))
  have hws1 := wrap_one (sgn_range (num s.data.toList) (num t.data.toList))
  have hwc := neg_wrap (cmp_range (KeyMath.shape (n : Int) s.data.toList) (KeyMath.shape (n : Int) t.data.toList))
  have hwc1 := wrap_one (cmp_range (KeyMath.shape (n : Int) s.data.toList) (KeyMath.shape (n : Int) t.data.toList))
  have HP := Lib.hid (parts_eq n s.data.toList t.data.toList)
  have HC1 := Lib.hid (fun W h1 h2 h3 => changeTrim n (w.heap.size + 1) (w.heap.size + 2) (w.heap.size + 3) s t W hn h1 h2 h3 (by omega) hs ht)
  have HC2 := Lib.hid (fun W h1 h2 h3 => changeDict n (w.heap.size + 1) (w.heap.size + 2) (w.heap.size + 3) (s1 n s) (s1 n t) W hn h1 h2 h3 (by omega) (s1_size n s hs) (s1_size n t ht))
  have HC3 := Lib.hid (fun W h1 h2 h3 h4 h5 => changeUp v n w.heap.size (w.heap.size + 1) (w.heap.size + 2) (w.heap.size + 3) (s2 n s) (s2 n t) W hn h1 h2 h3 (by omega) (s2_size n s hs) (s2_size n t ht) h4 h5)
  have HCC := Lib.hid (fun W hW => compare_any v (s3 n s) (s3 n t) W hW (s3_size n s hs) (s3_size n t ht))
  simp only [s3_list] at HCC
  generalize parts (n : Int) s.data.toList t.data.toList = R at *
  generalize cmp (KeyMath.shape (n : Int) s.data.toList) (KeyMath.shape (n : Int) t.data.toList) = C at *
  obtain ⟨g, c, rfl, hgc, hcell⟩ := hv
  clear hcell
  unfold posix at *
  have HWS := Lib.hid hws
  have HWC := Lib.hid hwc
  have HWS1 := Lib.hid hws1
  have HWC1 := Lib.hid hwc1
  clear hws hws1 hwc hwc1
  rcases h1 : has 1 (n : Int) with _ | _
  · rcases h2 : has 2 (n : Int) with _ | _
    all_goals
      rw [h1] at hand1
      rw [h2] at hand2
      rw [h1, h2] at HP
      have hz1 : (bits BinOp.and IntKind.i64 (n : Int) 1 == 0) = true := by simpa using hand1
      first
        | have hz2 : (bits BinOp.and IntKind.i64 (n : Int) 2 == 0) = true := by simpa using hand2
        | have hz2 : (bits BinOp.and IntKind.i64 (n : Int) 2 == 0) = false := by simpa using hand2
      clear hand1 hand2
      go_enter Tryz.func64, Tryz.ntmps64
      go_wp2_with (first
        | (go_at_call_of 92 (Value.int .i64 8)
           (with_reducible refine (HC1.out _ HS0.out.flag HS0.out.sx HS0.out.sy).mono ?_)
           rintro e w5 ⟨rfl, hx5, hy5, ht5⟩
           have HS1 := Lib.hid (show St w (.slice (some ⟨g, 0, none⟩) 256 c) n (s1 n s) (s1 n t) w5 from HS0.out.step ht5 hx5 hy5)
           clear hx5 hy5 ht5)
        | (go_at_call_of 92 (Value.int .i64 16)
           (with_reducible refine (HC2.out _ HS1.out.flag HS1.out.sx HS1.out.sy).mono ?_)
           rintro e w6 ⟨rfl, hx6, hy6, ht6⟩
           have HS2 := Lib.hid (show St w (.slice (some ⟨g, 0, none⟩) 256 c) n (s2 n s) (s2 n t) w6 from HS1.out.step ht6 hx6 hy6)
           clear hx6 hy6 ht6)
        | (go_at_call_of 92 (Value.int .i64 4)
           (with_reducible refine (HC3.out _ HS2.out.flag HS2.out.sx HS2.out.sy (HV.out.below HS2.out.below) HS2.out.box).mono ?_)
           rintro e w7 ⟨rfl, hx7, hy7, ht7⟩
           have HS3 := Lib.hid (show St w (.slice (some ⟨g, 0, none⟩) 256 c) n (s3 n s) (s3 n t) w7 from HS2.out.step ht7 hx7 hy7)
           clear hx7 hy7 ht7
           obtain ⟨-, c1, c2, c3, c4, c5⟩ := HS3.out.box.cells
           have c0 := HS3.out.box.cells'
           have cx := HS3.out.sx.cell.1
           have cy := HS3.out.sy.cell.1)
        | (go_at_call 63
           (with_reducible refine (HCC.out _ (HV.out.below HS3.out.below)).mono ?_)
           rintro e w8 ⟨rfl, hb8⟩))
      go_ret
      exact ⟨by rw [HP.out]; first | exact ret_int rfl | exact ret_int HWC.out | exact ret_int HWC1.out, below_step HS3.out.below hb8⟩
  · rcases h2 : has 2 (n : Int) with _ | _
    all_goals
      rw [h1] at hand1
      rw [h2] at hand2
      rw [h1, h2] at HP
      have hz1 : (bits BinOp.and IntKind.i64 (n : Int) 1 == 0) = false := by simpa using hand1
      first
        | have hz2 : (bits BinOp.and IntKind.i64 (n : Int) 2 == 0) = true := by simpa using hand2
        | have hz2 : (bits BinOp.and IntKind.i64 (n : Int) 2 == 0) = false := by simpa using hand2
      clear hand1 hand2
      go_enter Tryz.func64, Tryz.ntmps64
      go_wp2_with (first
        | (go_at_call_of 90 (Value.string s); (with_reducible refine (HPS.out _).mono ?_); rintro e w2 ⟨z1, rfl, rfl⟩)
        | (go_at_call_of 90 (Value.string t); (with_reducible refine (HPT.out _).mono ?_); rintro e w2 ⟨z2, rfl, rfl⟩)
        | (go_at_call 91; (with_reducible refine (HSG.out _ _ _).mono ?_); rintro e w2 ⟨rfl, rfl⟩))
      go_ret
      exact ⟨by rw [HP.out]; first | exact ret_int rfl | exact ret_int HWS.out | exact ret_int HWS1.out, HS0.out.below⟩
end Go.Proofs.YtkekpiillbpciaaGreatDoor.KTrim
