/- KEach; KCmp: merged into one text: lemmas for the walk of the law. No condition. -/
import Derived.Test.YtkekpiillbpciaaGreatDoorR3
import Derived.Maps.OwnSet
import Derived.Lib.Bytealg
import Derived.Lib.Walk
/- The collating elements of a string in the default locale: each, with the function that collects the weights. Strings of at most 65536 bytes. -/
namespace Go.Proofs.YtkekpiillbpciaaGreatDoor.KEach
open Go Go.RowKit KeyMath ScanMath KLoc Strs KNum KRefCmp
set_option maxRecDepth 100000
theorem zeroI (w : World) : (zeroValue 3).run Tryz.prog w = .ok (.int .i64 0) w := by kernel_rfl
theorem check_str (w : World) (x : ByteArray) : (Instr.checkKey true 10000 9 (.string x)).run Tryz.prog w = .ok () w := by kernel_rfl
theorem look_none (w : World) (b : Nat) (x : ByteArray) (c : Nat) (h : w.heap[b]? = some (.map #[] c)) :
    (Instr.lookup 84 (.map (some b)) (.string x) true).run Tryz.prog w = .ok (.tuple #[.int .i64 0, .bool false]) w := by
  have hz := zeroI w
  have hk := check_str w x
  simp only [Instr.lookup, Sem.run_bind, run_underlying Tryz.underlying84, Result.andThen_ok, Sem.run_pure, MapKept.run_getObj_map h]
  simp [hk, Instr.findKey, Instr.findNow, Instr.findAsking, hz]
/-- what a call does that adds to the memory and writes one block that stood before -/
structure Adds (w : World) (b base : Nat) (w' : World) : Prop where
  os : w'.os = w.os
  tape : w'.tape = w.tape
  output : w'.output = w.output
  size : w.heap.size ≤ w'.heap.size
  block : ∀ k, k < base → k ≠ b → w'.heap[k]? = w.heap[k]?
theorem Adds.refl (w : World) (b base : Nat) : Adds w b base w := ⟨rfl, rfl, rfl, Nat.le_refl _, fun _ _ _ => rfl⟩
theorem Adds.trans {w w1 w2 : World} {b base : Nat} (h : Adds w b base w1) (h2 : Adds w1 b base w2) : Adds w b base w2 :=
  ⟨h2.os.trans h.os, h2.tape.trans h.tape, h2.output.trans h.output, Nat.le_trans h.size h2.size, fun k hk hne => (h2.block k hk hne).trans (h.block k hk hne)⟩
theorem Adds.below {w w1 w2 : World} {b base B : Nat} (h : Adds w b base w1) (h2 : Below B w1 w2) (hB : base ≤ B) : Adds w b base w2 :=
  ⟨h2.os.trans h.os, h2.tape.trans h.tape, h2.output.trans h.output, Nat.le_trans h.size h2.size, fun k hk hne => (h2.block k (by omega)).trans (h.block k hk hne)⟩
theorem Adds.mono {w w1 : World} {b base base' : Nat} (h : Adds w b base w1) (hb : base' ≤ base) : Adds w b base' w1 := ⟨h.os, h.tape, h.output, h.size, fun k hk hne => h.block k (by omega) hne⟩
/-- a block that holds one value -/
def One (w : World) (b : Nat) (v : Value) : Prop := w.heap[b]? = some (.cells #[v] 33 (0, 0))
theorem One.cell {w : World} {b : Nat} {v : Value} (h : One w b v) : w.cell? ⟨b, 0, none⟩ = some v ∧ w.frozen? ⟨b, 0, none⟩ = false ∧ b < w.heap.size := by
  refine ⟨by rw [cell_of_row w b _ _ _ _ h]; rfl, ?_, (Array.getElem?_eq_some_iff.1 h).1⟩
  unfold One at h
  simp [World.frozen?, h]
theorem One.set {w : World} {b : Nat} {v : Value} (h : One w b v) (u : Value) : One (w.setCell ⟨b, 0, none⟩ u) b u := by
  unfold One at *
  rw [setCell_eq_setRow w b 0 _ _ _ u h]
  simpa using setRow_heap w b _ _ _ _ h
/-- what the function that collects the weights leaves -/
def CollPost (w : World) (b base n : Nat) (xs : List Value) (e : Ending) (w' : World) : Prop :=
  e = .returned (.bool true) ∧ (∃ out, One w' b out ∧ Own.Row w' base 3 1 out n xs) ∧ Adds w b base w'
set_option maxHeartbeats 4000000 in
theorem coll_any (x : ByteArray) (i : Int) (w : World) (b base n : Nat) (xs : List Value) (out : Value) (hbx : One w b out) (hrow : Own.Row w base 3 1 out n xs) (hbase : b < base) (hbw : base ≤ w.heap.size) (hn : n < 65536) :
    Calls Tryz.prog 88 #[.string x, .int .i64 i, .pointer (some ⟨b, 0, none⟩)] w (CollPost w b base (n + 1) (xs ++ [.int .i64 i])) := by
  obtain ⟨i0, hi, hz0, hz1, hz2⟩ := info_parts int_info
  obtain ⟨c0, f0, l0⟩ := hbx.cell
  have n1 : n + 1 ≤ maxLen := by unfold maxLen; omega
  have n2 : (n + 1) * 8 ≤ 140737488355328 := by omega
  have HB := Lib.hid hbx
  have HR := Lib.hid hrow
  clear hbx hrow
  go_enter Tryz.func88, Tryz.ntmps88
  go_wp2_with (at_builtin
               refine Own.wpList_append_one _ rfl _ _ 33 rfl base 3 i0 (.int .i64 0) 8 Tryz.underlying33 hi hz0 hz1 hz2 rfl _ _ _ rfl HR.out _ rfl rfl n1 n2 hbw ?_
               intro v' w1 hrow1 hg1 hb1
               obtain ⟨va, vc, rfl⟩ := hrow1.form
               have hB1 : One w1 b out := (hb1.block _ hbase).trans HB.out
               obtain ⟨c1, f1, l1⟩ := hB1.cell)
  go_ret
  refine ⟨rfl, ⟨_, hB1.set _, ?_⟩, (Adds.refl _ _ _).below hb1 (Nat.le_refl _) |>.trans ⟨rfl, rfl, rfl, by simp, fun k hk hne => Below.heap_setCell _ _ _ _ hne⟩⟩
  exact hrow1.keep fun k hk => Below.heap_setCell _ _ _ _ (by have := (hrow1.lt k hk).1; simp; omega)
theorem ints_of {w : World} {base n : Nat} {out : Value} {l : List UInt8} (h : Own.Row w base 3 1 out n (icells l)) : Ints w out l := Ints.of_Row h
theorem Adds.drewN {w w1 : World} {b base : Nat} (h : Adds w b base w1) (n : Nat) : Adds w b base (w1.drewN n) := ⟨h.os, h.tape, h.output, h.size, h.block⟩
theorem Adds.cell {w w1 : World} {b base : Nat} (h : Adds w b base w1) {p : Addr} (h1 : p.block < base) (h2 : p.block ≠ b) : w1.cell? p = w.cell? p := World.cell?_of_block (h.block _ h1 h2)
set_option maxHeartbeats 8000000 in
theorem each_any (v : Value) (s : ByteArray) (b : Nat) (w : World) (hv : Wts w v) (hb : One w b (.slice none 0 0)) (hs : s.size ≤ 65536) :
    Calls Tryz.prog 87 #[.agg #[posix, v, .string ⟨lowT.toArray⟩, .string ⟨upT.toArray⟩, .slice none 0 0, .slice none 0 0], .string s, .func (.func 88) #[] #[.pointer (some ⟨b, 0, none⟩)]] w
      fun e w' => e = .returned (.tuple #[]) ∧ (∃ out, One w' b out ∧ Own.Row w' w.heap.size 3 1 out s.size (icells s.data.toList)) ∧ Adds w b w.heap.size w' := by
  obtain ⟨g, c, rfl, hgc, hcell⟩ := hv
  have hss : s.data.toList.length = s.size := len_eq s
  have hbl := hb.cell.2.2
  have hg := World.block_lt_of_cell? w _ (hcell 0 (by omega))
  have hgb : g ≠ b := by
    intro e
    subst e
    have h1 := hcell 0 (by omega)
    rw [hb.cell.1] at h1
    cases h1
  have HC := Lib.hid hcell
  have HB := Lib.hid hb
  clear hcell hb
  unfold posix at *
  go_enter Tryz.func87, Tryz.ntmps87
  have hmm := @run_makeMap Tryz.prog
  have HL := Lib.hid look_none
  have HK := Lib.hid coll_any
  go_wp2
  have hA0 : Adds w b w.heap.size ((w.alloc (.cells #[.string ⟨#[112, 111, 115, 105, 120]⟩, .slice (some ⟨g, 0, none⟩) 256 c, .string ⟨lowT.toArray⟩, .string ⟨upT.toArray⟩, .slice none 0 0, .slice none 0 0] 37)).alloc (.map #[] 0)) :=
    (Adds.refl w b _).below (((Below.refl _ _).alloc (Nat.le_refl _) _).alloc (by simp) _) (Nat.le_refl _)
  have hO0 : One ((w.alloc (.cells #[.string ⟨#[112, 111, 115, 105, 120]⟩, .slice (some ⟨g, 0, none⟩) 256 c, .string ⟨lowT.toArray⟩, .string ⟨upT.toArray⟩, .slice none 0 0, .slice none 0 0] 37)).alloc (.map #[] 0)) b (.slice none 0 0) :=
    ((((Below.refl w.heap.size w).alloc (Nat.le_refl _) _).alloc (by simp) _).block _ hbl).trans HB.out
  have HA0 := Lib.hid hA0
  have HO0 := Lib.hid hO0
  clear hA0 hO0
  go_loopw [18] (fun i wr => i = .int .i64 0 ∧ wr = (w.alloc (.cells #[.string ⟨#[112, 111, 115, 105, 120]⟩, .slice (some ⟨g, 0, none⟩) 256 c, .string ⟨lowT.toArray⟩, .string ⟨upT.toArray⟩, .slice none 0 0, .slice none 0 0] 37)).alloc (.map #[] 0)) (fun _ _ => 0)
  case atStart => exact ⟨rfl, rfl⟩
  case round =>
    obtain ⟨rfl, rfl⟩ := hrel
    go_wp2
    go_loopw [9] (fun t wr => ∃ (k : Nat) (out : Value), k ≤ s.size ∧ t = .int .i64 k ∧ One wr b out ∧ Own.Row wr (w.heap.size + 2) 3 1 out k (icells (s.data.toList.take k)) ∧ Box wr w.heap.size (.slice (some ⟨g, 0, none⟩) 256 c) ∧ wr.heap[w.heap.size + 1]? = some (.map #[] 0) ∧ Adds w b w.heap.size wr ∧ w.heap.size + 2 ≤ wr.heap.size) (fun t _ => s.size - (intOf t).toNat)
    case atStart => exact ⟨0, _, Nat.zero_le _, rfl, HO0.out, Own.Row.nil _ _ _ _, (Below.heap_alloc _ _ _ (by simp)).trans (heap_alloc_new w _), alloc2 w _ _, HA0.out, by simp⟩
    case round =>
      obtain ⟨k, out, hk, rfl, hone, hrow, hbox, hmap, hadd, hsz⟩ := hrel
      obtain ⟨c0, c1, c2, c3, c4, c5⟩ := hbox.cells
      have HBX := Lib.hid hbox
      have HON := Lib.hid hone
      have HRO := Lib.hid hrow
      have HAD := Lib.hid hadd
      clear hbox hone hrow
      by_cases hlt : k < s.size
      · have hx := Lib.hid (at_some s hlt)
        have hlt' : (k : Int) < (s.size : Int) := by omega
        have hbb : s[k].toNat < 256 := UInt8.toNat_lt _
        have hbb' : (s[k].toNat : Int) < 256 := by omega
        have hww : wr.cell? ⟨g, s[k].toNat, none⟩ = some (.int .i64 (s[k].toNat : Int)) := (hadd.cell hg hgb).trans (HC.out _ hbb)
        have hsl1 : ∀ W, (Instr.slice 9 (.string s) (some (.int .i64 (k : Int))) (some (.int .i64 ((k : Int) + 1))) none).run Tryz.prog W = .ok (.string (s.extract k (k + 1))) W := fun W => run_slice_string W _ s .i64 .i64 _ _ Tryz.underlying9 (by omega) (by omega) (by omega)
        have hxsz : (s.extract k (k + 1)).size = 1 := by simp; omega
        clear hadd
        go_wp2
        go_quiet (fail)
        have HON2 := Lib.hid (show One (wr.drewN nq) b out from HON.out)
        have HRO2 := Lib.hid (show Own.Row (wr.drewN nq) (w.heap.size + 2) 3 1 out k (icells (s.data.toList.take k)) from HRO.out)
        have hsz2 : w.heap.size + 2 ≤ (wr.drewN nq).heap.size := hsz
        by_cases h2 : k + 2 ≤ s.size
        · have h2' : (k : Int) + 2 ≤ (s.size : Int) := by omega
          have hsl2 : ∀ W, (Instr.slice 9 (.string s) (some (.int .i64 (k : Int))) (some (.int .i64 ((k : Int) + 2))) none).run Tryz.prog W = .ok (.string (s.extract k (k + 2))) W := fun W => run_slice_string W _ s .i64 .i64 _ _ Tryz.underlying9 (by omega) (by omega) (by omega)
          have hlk := HL.out (wr.drewN nq) (w.heap.size + 1) (s.extract k (k + 2)) 0 hmap
          go_wp2_with (go_at_call 88
                       (with_reducible refine (HK.out _ _ _ b (w.heap.size + 2) k _ out HON2.out HRO2.out (by omega) hsz2 (by omega)).mono ?_)
                       rintro e w3 ⟨rfl, ⟨out3, hone3, hrow3⟩, hadd3⟩)
          go_roundw
          case rel =>
            refine ⟨k + 1, out3, by omega, by go_num, hone3, ?_, HBX.out.keep (hadd3.block _ (by omega) (by omega)), (hadd3.block _ (by omega) (by omega)).trans hmap, (HAD.out.drewN nq).trans (hadd3.mono (Nat.le_add_right _ _)), Nat.le_trans hsz2 hadd3.size⟩
            rw [icells_snoc hx.out]
            exact hrow3
          case measure => simp [intOf]; omega
        · have h2' : ¬ (k : Int) + 2 ≤ (s.size : Int) := by omega
          go_wp2_with (go_at_call 88
                       (with_reducible refine (HK.out _ _ _ b (w.heap.size + 2) k _ out HON2.out HRO2.out (by omega) hsz2 (by omega)).mono ?_)
                       rintro e w3 ⟨rfl, ⟨out3, hone3, hrow3⟩, hadd3⟩)
          go_roundw
          case rel =>
            refine ⟨k + 1, out3, by omega, by go_num, hone3, ?_, HBX.out.keep (hadd3.block _ (by omega) (by omega)), (hadd3.block _ (by omega) (by omega)).trans hmap, (HAD.out.drewN nq).trans (hadd3.mono (Nat.le_add_right _ _)), Nat.le_trans hsz2 hadd3.size⟩
            rw [icells_snoc hx.out]
            exact hrow3
          case measure => simp [intOf]; omega
      · obtain rfl : k = s.size := by omega
        go_wp2
        have e : s.data.toList.take s.size = s.data.toList := List.take_of_length_le (by rw [hss]; exact Nat.le_refl _)
        have h2 := HRO.out
        rw [e] at h2
        go_end0
        exact ⟨rfl, ⟨out, HON.out, h2.mono (by omega)⟩, hadd⟩
end Go.Proofs.YtkekpiillbpciaaGreatDoor.KEach

/- Comparing strings in the default locale: what the program's Compare returns. Strings of at most 65536 bytes. -/
namespace Go.Proofs.YtkekpiillbpciaaGreatDoor.KEach
open Go Go.RowKit KeyMath ScanMath KLoc Strs KNum KRefCmp
set_option maxRecDepth 100000
/-- what weights leaves -/
def WPost (w : World) (l : List UInt8) (e : Ending) (w' : World) : Prop := ∃ v, e = .returned v ∧ Own.Row w' w.heap.size 3 1 v l.length (icells l) ∧ Below w.heap.size w w'
set_option maxHeartbeats 4000000 in
theorem weights1_any (v : Value) (s : ByteArray) (b : Nat) (w : World) (hv : Wts w v) (hbox : Box w b v) (hs : s.size ≤ 65536) :
    Calls Tryz.prog 86 #[.string s, .pointer (some ⟨b, 0, none⟩)] w (WPost w s.data.toList) := by
  have hss : s.data.toList.length = s.size := len_eq s
  have HV := Lib.hid hv
  have HX := Lib.hid hbox
  have HO0 := Lib.hid (show One (w.alloc (.cells #[.slice none 0 0] 33)) w.heap.size (.slice none 0 0) from heap_alloc_new w _)
  have HE := Lib.hid (fun b' W (hW : Wts W v) (hO : One W b' (.slice none 0 0)) => each_any v s b' W hW hO hs)
  obtain ⟨c0, c1, c2, c3, c4, c5⟩ := hbox.cells
  have hbl := hbox.lt
  obtain ⟨g, c, rfl, hgc, hcell⟩ := hv
  clear hcell hbox
  unfold posix at *
  go_enter Tryz.func86, Tryz.ntmps86
  go_wp2_with (go_at_call 87
               (with_reducible refine (HE.out w.heap.size _ (HV.out.below ((Below.refl _ _).alloc (Nat.le_refl _) _)) HO0.out).mono ?_)
               rintro e w3 ⟨rfl, ⟨out, hone, hrow⟩, hadd⟩
               obtain ⟨d0, d1, d2⟩ := hone.cell
               obtain ⟨va, vc, rfl⟩ := hrow.form)
  go_ret
  refine ⟨_, rfl, by rw [hss]; exact hrow.mono (by simp), hadd.os, hadd.tape, hadd.output, Nat.le_trans (by simp) hadd.size, fun k hk => (hadd.block k (by simp; omega) (by omega)).trans (Below.heap_alloc _ _ _ hk)⟩
theorem cmp_bytes : ∀ (a b : List UInt8), Lib.compareBytes a b = cmp a b
  | [], [] => rfl
  | [], _ :: _ => rfl
  | _ :: _, [] => rfl
  | a :: x, b :: y => by
    have ih := cmp_bytes x y
    unfold Lib.compareBytes cmp
    rw [ih]
set_option maxHeartbeats 1000000 in
theorem cmpString_any (a b : ByteArray) (w : World) :
    Calls Tryz.prog 134 #[.string a, .string b] w fun e w' => e = .returned (.int .i64 (cmp a.data.toList b.data.toList)) ∧ w' = w := by
  go_enter Tryz.func134, Tryz.ntmps134
  go_wp2
  rw [run_callFunc_extern Tryz.func181 (by kernel_rfl) (by kernel_rfl) (by kernel_rfl) (e := Extern.BytealgCompare.compare) (by kernel_rfl), Lib.run_compareString, cmp_bytes]
  simp only [Result.andThen]
  rw [Oper.upon_value]
  go_wp2
  go_ret
  exact ⟨rfl, rfl⟩
set_option maxHeartbeats 1000000 in
theorem strCmp_any (a b : ByteArray) (w : World) :
    Calls Tryz.prog 89 #[.string a, .string b] w fun e w' => e = .returned (.int .i64 (cmp a.data.toList b.data.toList)) ∧ w' = w := by
  go_enter Tryz.func89, Tryz.ntmps89
  go_wp2_with (go_at_call 134; refine (cmpString_any _ _ _).mono ?_; rintro e w' ⟨rfl, rfl⟩)
  go_ret
  exact ⟨rfl, rfl⟩
theorem Box.store {w : World} {b : Nat} {v : Value} (h : Box w b v) (u : Value) : Box ((((((w.setCell ⟨b, 0, none⟩ (.string ⟨#[112, 111, 115, 105, 120]⟩)).setCell ⟨b, 1, none⟩ u).setCell ⟨b, 2, none⟩ (.string ⟨lowT.toArray⟩)).setCell ⟨b, 3, none⟩ (.string ⟨upT.toArray⟩)).setCell ⟨b, 4, none⟩ (.slice none 0 0)).setCell ⟨b, 5, none⟩ (.slice none 0 0)) b u := by
  unfold Box at *
  simp [World.setCell, Array.getElem?_modify, h, posix]
theorem Wts.off {w : World} {b : Nat} {u v : Value} (h : Wts w v) (hb : Box w b u) : ∀ g, v.ownBlock = some g → g ≠ b := by
  obtain ⟨g, c, rfl, -, hcell⟩ := h
  intro z hz e
  simp [Value.ownBlock] at hz
  subst hz
  subst e
  have h1 := hcell 0 (by omega)
  rw [hb.cells'] at h1
  cases h1
theorem Wts.store {w : World} {b : Nat} {v u : Value} (h : Wts w u) (hb : Box w b v) : Wts ((((((w.setCell ⟨b, 0, none⟩ (.string ⟨#[112, 111, 115, 105, 120]⟩)).setCell ⟨b, 1, none⟩ u).setCell ⟨b, 2, none⟩ (.string ⟨lowT.toArray⟩)).setCell ⟨b, 3, none⟩ (.string ⟨upT.toArray⟩)).setCell ⟨b, 4, none⟩ (.slice none 0 0)).setCell ⟨b, 5, none⟩ (.slice none 0 0)) u :=
  Wts.set (Wts.set (Wts.set (Wts.set (Wts.set (Wts.set h _ (Wts.off h hb)) _ (Wts.off h hb)) _ (Wts.off h hb)) _ (Wts.off h hb)) _ (Wts.off h hb)) _ (Wts.off h hb)
set_option maxHeartbeats 8000000 in
theorem compare_lt (v : Value) (s t : ByteArray) (w : World) (hv : Wts w v) (hs : s.size ≤ 65536) (ht : t.size ≤ 65536) (hxy : s.data.toList.length < t.data.toList.length) :
    Calls Tryz.prog 63 #[.agg #[posix, v, .string ⟨lowT.toArray⟩, .string ⟨upT.toArray⟩, .slice none 0 0, .slice none 0 0], .string s, .string t] w fun e w' => e = .returned (.int .i64 (cmp s.data.toList t.data.toList)) ∧ Below w.heap.size w w' := by
  have HK := Lib.hid hv
  have HV := Lib.hid (fun W (hW : Wts W v) => valid_loc v W hW)
  have HWS := Lib.hid (fun u b W (hW : Wts W u) (hB : Box W b u) => weights1_any u s b W hW hB hs)
  have HWT := Lib.hid (fun u b W (hW : Wts W u) (hB : Box W b u) => weights1_any u t b W hW hB ht)
  have HC := Lib.hid (fun W => strCmp_any s t W)
  obtain ⟨g, c, rfl, hgc, hcell⟩ := hv
  clear hcell
  unfold posix at *
  have hxy' : (s.data.toList.length : Int) < (t.data.toList.length : Int) := by omega
  go_enter Tryz.func63, Tryz.ntmps63
  go_wp2_with (first
    | (go_at_call 85
       (with_reducible refine (HV.out _ (HK.out.below ((Below.refl _ _).alloc (Nat.le_refl _) _))).mono ?_)
       rintro e w2 ⟨v', rfl, hw2, hb2⟩
       have hbx2 : Box w2 w.heap.size (.slice (some ⟨g, 0, none⟩) 256 c) := (hb2.block _ (by simp)).trans (heap_alloc_new w _)
       obtain ⟨-, -, -, -, -, -, f0⟩ := hbx2.same
       obtain ⟨-, c1, c2, c3, c4, c5⟩ := hbx2.cells
       have c0 := hbx2.cells'
       have HBX := Lib.hid (Box.store hbx2 v')
       have HWX := Lib.hid (Wts.store hw2 hbx2)
       have HBB := Lib.hid ((((((((((Below.refl w.heap.size w).alloc (Nat.le_refl _) _).trans (hb2.mono (by simp))).setCell (p := ⟨w.heap.size, 0, none⟩) (Nat.le_refl _) (.string ⟨#[112, 111, 115, 105, 120]⟩)).setCell (p := ⟨w.heap.size, 1, none⟩) (Nat.le_refl _) v').setCell (p := ⟨w.heap.size, 2, none⟩) (Nat.le_refl _) (.string ⟨lowT.toArray⟩)).setCell (p := ⟨w.heap.size, 3, none⟩) (Nat.le_refl _) (.string ⟨upT.toArray⟩)).setCell (p := ⟨w.heap.size, 4, none⟩) (Nat.le_refl _) (.slice none 0 0)).setCell (p := ⟨w.heap.size, 5, none⟩) (Nat.le_refl _) (.slice none 0 0)))
       obtain ⟨g2, cc2, rfl, -, -⟩ := hw2
       clear hbx2)
    | (go_at_call_of 86 (Value.string s)
       (with_reducible refine (HWS.out _ w.heap.size _ HWX.out HBX.out).mono ?_)
       rintro e w5 ⟨va, rfl, hra, hba⟩
       have HB5 := Lib.hid (below_step HBB.out hba)
       have HX5 := Lib.hid (HBX.out.keep (hba.block _ HBX.out.lt))
       have HW5 := Lib.hid (HWX.out.below hba)
       have HA5 := Lib.hid (Ints.of_Row hra)
       clear hba hra)
    | (go_at_call_of 86 (Value.string t)
       (with_reducible refine (HWT.out _ w.heap.size _ HW5.out HX5.out).mono ?_)
       rintro e w6 ⟨vb, rfl, hrb, hbb⟩
       have HB6 := Lib.hid (below_step HB5.out hbb)
       have hia := HA5.out.below hbb
       have hib := Ints.of_Row hrb
       generalize hxs0 : s.data.toList = xs at *
       generalize hys0 : t.data.toList = ys at *
       obtain ⟨aa, ca, rfl, hma0, hca⟩ := hia
       obtain ⟨ab, cb, rfl, hmb0, hcb⟩ := hib
       have hma : xs.length ≤ 2 ^ 63 - 1 := Nat.le_trans hma0.1 hma0.2
       have hmb : ys.length ≤ 2 ^ 63 - 1 := Nat.le_trans hmb0.1 hmb0.2
       clear hma0 hmb0 hrb hbb HA5 HX5 HW5 HBX HWX HBB
       replace hxs0 := Lib.hid hxs0
       replace hys0 := Lib.hid hys0
       skip))
  go_wp2
  go_loopw [25] (fun i wr => ∃ k n : Nat, k ≤ xs.length ∧ i = .int .i64 k ∧ wr = w6.drewN n ∧ Hid (xs.take k = ys.take k)) (fun i _ => xs.length - (intOf i).toNat)
  case atStart => exact ⟨0, 0, Nat.zero_le _, rfl, rfl, rfl⟩
  case round =>
    obtain ⟨k, n, hk1, rfl, rfl, HT⟩ := hrel
    by_cases h1 : k < xs.length
    · have b1 : (k : Int) < (xs.length : Int) := by omega
      have b2 : (k : Int) < (ys.length : Int) := by omega
      have b3 : k < xs.length := by omega
      have b4 : k < ys.length := by omega
      obtain ⟨bx, ox, rfl, hcx⟩ := hca (by intro e; subst e; simp at b3)
      obtain ⟨bY, oY, rfl, hcy⟩ := hcb (by intro e; subst e; simp at b4)
      have hxs : xs[k]? = some xs[k] := List.getElem?_eq_getElem b3
      have hys : ys[k]? = some ys[k] := List.getElem?_eq_getElem b4
      have hx := hcx k xs[k] hxs
      have hy := hcy k ys[k] hys
      have HX := Lib.hid hxs
      have HY := Lib.hid hys
      clear hxs hys hca hcb hcx hcy
      generalize xs[k] = x at *
      generalize ys[k] = y at *
      by_cases hlt : x.toNat < y.toNat
      · have hlt' : (x.toNat : Int) < (y.toNat : Int) := by omega
        have HR := Lib.hid (cmp_less HT.out HX.out HY.out hlt)
        go_wp2
        go_quiet (fail)
        go_wp2
        go_ret
        exact ⟨by rw [hxs0.out, hys0.out, HR.out]; rfl, by repeat' (first | exact HB6.out | refine Base.below_drewN ?_ _)⟩
      · have hge' : ¬ (x.toNat : Int) < (y.toNat : Int) := by omega
        by_cases hgt : y.toNat < x.toNat
        · have hgt' : (y.toNat : Int) < (x.toNat : Int) := by omega
          have HR := Lib.hid (cmp_more HT.out HX.out HY.out hgt)
          go_wp2
          go_quiet (fail)
          go_wp2
          go_quiet (fail)
          go_wp2
          go_ret
          exact ⟨by rw [hxs0.out, hys0.out, HR.out]; rfl, by repeat' (first | exact HB6.out | refine Base.below_drewN ?_ _)⟩
        · have hle' : ¬ (y.toNat : Int) < (x.toNat : Int) := by omega
          have hxy : x = y := UInt8.toNat_inj.1 (by omega)
          have HE := Lib.hid hxy
          have HN := Lib.hid (KRefCmp.take_succ HT.out HX.out HY.out HE.out)
          clear hxy
          go_wp2
          go_quiet (fail)
          go_wp2
          go_quiet (fail)
          go_wp2
          go_roundw
          case rel => exact ⟨k + 1, _, by omega, by go_num, rfl, HN⟩
          case measure => simp [intOf]; omega
    · have hke : k = xs.length := by omega
      have HR := Lib.hid (cmp_short HT.out hke hxy)
      obtain rfl := hke
      clear hca hcb
      go_wp2
      go_ret
      exact ⟨by rw [hxs0.out, hys0.out, HR.out]; rfl, by repeat' (first | exact HB6.out | refine Base.below_drewN ?_ _)⟩
set_option maxHeartbeats 8000000 in
theorem compare_ge (v : Value) (s t : ByteArray) (w : World) (hv : Wts w v) (hs : s.size ≤ 65536) (ht : t.size ≤ 65536) (hxy : t.data.toList.length ≤ s.data.toList.length) :
    Calls Tryz.prog 63 #[.agg #[posix, v, .string ⟨lowT.toArray⟩, .string ⟨upT.toArray⟩, .slice none 0 0, .slice none 0 0], .string s, .string t] w fun e w' => e = .returned (.int .i64 (cmp s.data.toList t.data.toList)) ∧ Below w.heap.size w w' := by
  have HK := Lib.hid hv
  have HV := Lib.hid (fun W (hW : Wts W v) => valid_loc v W hW)
  have HWS := Lib.hid (fun u b W (hW : Wts W u) (hB : Box W b u) => weights1_any u s b W hW hB hs)
  have HWT := Lib.hid (fun u b W (hW : Wts W u) (hB : Box W b u) => weights1_any u t b W hW hB ht)
  have HC := Lib.hid (fun W => strCmp_any s t W)
  obtain ⟨g, c, rfl, hgc, hcell⟩ := hv
  clear hcell
  unfold posix at *
  have hxy' : (t.data.toList.length : Int) ≤ (s.data.toList.length : Int) := by omega
  go_enter Tryz.func63, Tryz.ntmps63
  go_wp2_with (first
    | (go_at_call 85
       (with_reducible refine (HV.out _ (HK.out.below ((Below.refl _ _).alloc (Nat.le_refl _) _))).mono ?_)
       rintro e w2 ⟨v', rfl, hw2, hb2⟩
       have hbx2 : Box w2 w.heap.size (.slice (some ⟨g, 0, none⟩) 256 c) := (hb2.block _ (by simp)).trans (heap_alloc_new w _)
       obtain ⟨-, -, -, -, -, -, f0⟩ := hbx2.same
       obtain ⟨-, c1, c2, c3, c4, c5⟩ := hbx2.cells
       have c0 := hbx2.cells'
       have HBX := Lib.hid (Box.store hbx2 v')
       have HWX := Lib.hid (Wts.store hw2 hbx2)
       have HBB := Lib.hid ((((((((((Below.refl w.heap.size w).alloc (Nat.le_refl _) _).trans (hb2.mono (by simp))).setCell (p := ⟨w.heap.size, 0, none⟩) (Nat.le_refl _) (.string ⟨#[112, 111, 115, 105, 120]⟩)).setCell (p := ⟨w.heap.size, 1, none⟩) (Nat.le_refl _) v').setCell (p := ⟨w.heap.size, 2, none⟩) (Nat.le_refl _) (.string ⟨lowT.toArray⟩)).setCell (p := ⟨w.heap.size, 3, none⟩) (Nat.le_refl _) (.string ⟨upT.toArray⟩)).setCell (p := ⟨w.heap.size, 4, none⟩) (Nat.le_refl _) (.slice none 0 0)).setCell (p := ⟨w.heap.size, 5, none⟩) (Nat.le_refl _) (.slice none 0 0)))
       obtain ⟨g2, cc2, rfl, -, -⟩ := hw2
       clear hbx2)
    | (go_at_call_of 86 (Value.string s)
       (with_reducible refine (HWS.out _ w.heap.size _ HWX.out HBX.out).mono ?_)
       rintro e w5 ⟨va, rfl, hra, hba⟩
       have HB5 := Lib.hid (below_step HBB.out hba)
       have HX5 := Lib.hid (HBX.out.keep (hba.block _ HBX.out.lt))
       have HW5 := Lib.hid (HWX.out.below hba)
       have HA5 := Lib.hid (Ints.of_Row hra)
       clear hba hra)
    | (go_at_call_of 86 (Value.string t)
       (with_reducible refine (HWT.out _ w.heap.size _ HW5.out HX5.out).mono ?_)
       rintro e w6 ⟨vb, rfl, hrb, hbb⟩
       have HB6 := Lib.hid (below_step HB5.out hbb)
       have hia := HA5.out.below hbb
       have hib := Ints.of_Row hrb
       generalize hxs0 : s.data.toList = xs at *
       generalize hys0 : t.data.toList = ys at *
       obtain ⟨aa, ca, rfl, hma0, hca⟩ := hia
       obtain ⟨ab, cb, rfl, hmb0, hcb⟩ := hib
       have hma : xs.length ≤ 2 ^ 63 - 1 := Nat.le_trans hma0.1 hma0.2
       have hmb : ys.length ≤ 2 ^ 63 - 1 := Nat.le_trans hmb0.1 hmb0.2
       clear hma0 hmb0 hrb hbb HA5 HX5 HW5 HBX HWX HBB
       replace hxs0 := Lib.hid hxs0
       replace hys0 := Lib.hid hys0
       skip))
  go_wp2
  go_loopw [25] (fun i wr => ∃ k n : Nat, k ≤ ys.length ∧ i = .int .i64 k ∧ wr = w6.drewN n ∧ Hid (xs.take k = ys.take k)) (fun i _ => ys.length - (intOf i).toNat)
  case atStart => exact ⟨0, 0, Nat.zero_le _, rfl, rfl, rfl⟩
  case round =>
    obtain ⟨k, n, hk1, rfl, rfl, HT⟩ := hrel
    by_cases h1 : k < ys.length
    · have b1 : (k : Int) < (xs.length : Int) := by omega
      have b2 : (k : Int) < (ys.length : Int) := by omega
      have b3 : k < xs.length := by omega
      have b4 : k < ys.length := by omega
      obtain ⟨bx, ox, rfl, hcx⟩ := hca (by intro e; subst e; simp at b3)
      obtain ⟨bY, oY, rfl, hcy⟩ := hcb (by intro e; subst e; simp at b4)
      have hxs : xs[k]? = some xs[k] := List.getElem?_eq_getElem b3
      have hys : ys[k]? = some ys[k] := List.getElem?_eq_getElem b4
      have hx := hcx k xs[k] hxs
      have hy := hcy k ys[k] hys
      have HX := Lib.hid hxs
      have HY := Lib.hid hys
      clear hxs hys hca hcb hcx hcy
      generalize xs[k] = x at *
      generalize ys[k] = y at *
      by_cases hlt : x.toNat < y.toNat
      · have hlt' : (x.toNat : Int) < (y.toNat : Int) := by omega
        have HR := Lib.hid (cmp_less HT.out HX.out HY.out hlt)
        go_wp2
        go_quiet (fail)
        go_wp2
        go_ret
        exact ⟨by rw [hxs0.out, hys0.out, HR.out]; rfl, by repeat' (first | exact HB6.out | refine Base.below_drewN ?_ _)⟩
      · have hge' : ¬ (x.toNat : Int) < (y.toNat : Int) := by omega
        by_cases hgt : y.toNat < x.toNat
        · have hgt' : (y.toNat : Int) < (x.toNat : Int) := by omega
          have HR := Lib.hid (cmp_more HT.out HX.out HY.out hgt)
          go_wp2
          go_quiet (fail)
          go_wp2
          go_quiet (fail)
          go_wp2
          go_ret
          exact ⟨by rw [hxs0.out, hys0.out, HR.out]; rfl, by repeat' (first | exact HB6.out | refine Base.below_drewN ?_ _)⟩
        · have hle' : ¬ (y.toNat : Int) < (x.toNat : Int) := by omega
          have hxy : x = y := UInt8.toNat_inj.1 (by omega)
          have HE := Lib.hid hxy
          have HN := Lib.hid (KRefCmp.take_succ HT.out HX.out HY.out HE.out)
          clear hxy
          go_wp2
          go_quiet (fail)
          go_wp2
          go_quiet (fail)
          go_wp2
          go_roundw
          case rel => exact ⟨k + 1, _, by omega, by go_num, rfl, HN⟩
          case measure => simp [intOf]; omega
    · have hke : k = ys.length := by omega
      have h0 : ¬ (xs.length : Int) < (ys.length : Int) := by omega
      by_cases h2 : ys.length < xs.length
      · have h2' : (ys.length : Int) < (xs.length : Int) := by omega
        have HR := Lib.hid (cmp_long HT.out hke h2)
        obtain rfl := hke
        clear hca hcb
        go_wp2
        go_ret
        exact ⟨by rw [hxs0.out, hys0.out, HR.out]; rfl, by repeat' (first | exact HB6.out | refine Base.below_drewN ?_ _)⟩
      · have h2' : ¬ (ys.length : Int) < (xs.length : Int) := by omega
        obtain rfl := hke
        clear hca hcb
        go_wp2_with (go_at_call 89; (with_reducible refine (HC.out _).mono ?_); rintro e w7 ⟨rfl, rfl⟩)
        go_ret
        exact ⟨by rw [hxs0.out, hys0.out]; rfl, by repeat' (first | exact HB6.out | refine Base.below_drewN ?_ _)⟩
theorem compare_any (v : Value) (s t : ByteArray) (w : World) (hv : Wts w v) (hs : s.size ≤ 65536) (ht : t.size ≤ 65536) :
    Calls Tryz.prog 63 #[.agg #[posix, v, .string ⟨lowT.toArray⟩, .string ⟨upT.toArray⟩, .slice none 0 0, .slice none 0 0], .string s, .string t] w fun e w' => e = .returned (.int .i64 (cmp s.data.toList t.data.toList)) ∧ Below w.heap.size w w' := by
  rcases Nat.lt_or_ge s.data.toList.length t.data.toList.length with h | h
  · exact compare_lt v s t w hv hs ht h
  · exact compare_ge v s t w hv hs ht h
end Go.Proofs.YtkekpiillbpciaaGreatDoor.KEach
