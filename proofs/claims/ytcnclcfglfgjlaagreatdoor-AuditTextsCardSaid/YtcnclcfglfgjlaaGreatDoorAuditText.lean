/- Both Texts write the same report: the library's table of powers of ten must hold its twenty numbers. -/
import Derived.Test.YtcnclcfglfgjlaaGreatDoorNumFmt
import Derived.Test.YtcnclcfglfgjlaaGreatDoorShelf
import Derived.Test.YtcnclcfglfgjlaaGreatDoorQuietly
import Derived.Lib.AppendIntMem
namespace Go.Proofs.YtcnclcfglfgjlaaGreatDoor.AuditText
open Go Go.RowKit Quietly NumFmt

abbrev Held (w : World) : Prop := Lib.TabIs Tryz.prog w "internal/strconv.uint64pow10" .u64 Lib.pow10Tab
def textOf (a b : Int) : ByteArray := ⟨#[114, 101, 112, 111, 114, 116, 32]⟩ ++ ⟨(Lib.itoa a).toArray⟩ ++ ⟨#[32]⟩ ++ ⟨(Lib.itoa b).toArray⟩
theorem itoa_len (n : Int) (h0 : -9223372036854775808 ≤ n) (h1 : n ≤ 9223372036854775807) : (Lib.itoa n).length ≤ 21 := by
  have hd : ∀ u : Nat, u ≤ 9223372036854775808 → (Lib.decDigits u).length ≤ 20 := fun u hu => by
    rw [Lib.decDigits_length]
    exact nd_le 19 u (by omega)
  unfold Lib.itoa
  split
  · have := hd n.natAbs (by omega)
    simp only [List.length_cons]
    omega
  · have := hd n.toNat (by omega)
    omega
theorem below_grow (w : World) (k : Nat) (os : Array Obj) : Below w.heap.size w (Sort.grow (w.drewN k) os) :=
  ⟨rfl, rfl, rfl, by first | (simp [Sort.grow]; done) | (simp [Sort.grow]; omega), fun i hi => by
    show ((w.drewN k).heap ++ os)[i]? = _
    rw [Array.getElem?_append_left (by show i < w.heap.size; omega)]
    rfl⟩
theorem itoa_any (n : Int) (h0 : -9223372036854775808 ≤ n) (h1 : n ≤ 9223372036854775807) (w : World) (ht : Held w) :
    Calls Tryz.prog 42 #[.int .i64 n] w fun e w' => e = .returned (.string ⟨(Lib.itoa n).toArray⟩) ∧ Below w.heap.size w w' := by
  refine (Tryz.strconv_Itoa n h0 h1 w ht).mono ?_
  rintro e w' ⟨rfl, k, os, rfl⟩
  exact ⟨rfl, below_grow w k os⟩
theorem boxed_cells (w : World) (a b : Int) (T : Nat) : (w.alloc (.cells #[.int .i64 a, .int .i64 b] T)).cell? ⟨w.heap.size, 0, none⟩ = some (.int .i64 a) ∧ (w.alloc (.cells #[.int .i64 a, .int .i64 b] T)).cell? ⟨w.heap.size, 1, none⟩ = some (.int .i64 b) := by
  constructor
  · rw [cell_of_row _ w.heap.size 0 #[.int .i64 a, .int .i64 b] T (0, 0) (alloc_at _ _)]; rfl
  · rw [cell_of_row _ w.heap.size 1 #[.int .i64 a, .int .i64 b] T (0, 0) (alloc_at _ _)]; rfl
set_option maxHeartbeats 2000000 in
set_option maxRecDepth 100000 in
theorem text_any (a b : Int) (a0 : -9223372036854775808 ≤ a) (a1 : a ≤ 9223372036854775807) (b0 : -9223372036854775808 ≤ b) (b1 : b ≤ 9223372036854775807) (w : World) (ht : Held w) :
    Calls Tryz.prog 17 #[.agg #[.int .i64 a, .int .i64 b]] w fun e w' => e = .returned (.string (textOf a b)) ∧ Below w.heap.size w w' := by
  have hb0 := (Below.refl w.heap.size w).alloc (Nat.le_refl _) (.cells #[.int .i64 a, .int .i64 b] 55)
  have ht0 := Lib.tabIs_alloc ht (.cells #[.int .i64 a, .int .i64 b] 55)
  obtain ⟨k0, k1⟩ := boxed_cells w a b 55
  have hlt : w.heap.size < (w.alloc (.cells #[.int .i64 a, .int .i64 b] 55)).heap.size := by show _ < (w.heap.push _).size; simp
  have la := itoa_len a a0 a1
  have lb := itoa_len b b0 b1
  go_enter Tryz.func17, Tryz.ntmps17
  go_wp2_with fail
  generalize w.alloc (.cells #[.int .i64 a, .int .i64 b] 55) = w0 at *
  clear ht
  obtain ⟨X, F, hN, hBF, hw0, hF⟩ := worlds w0
  have hT : ∀ x, Held (F x) := fun x => Lib.tabBelow_of_tabIs ht0 _ (hBF x)
  have c0 : ∀ x, (F x).cell? ⟨w.heap.size, 0, none⟩ = some (.int .i64 a) := fun x => by rw [(hBF x).cell hlt]; exact k0
  have c1 : ∀ x, (F x).cell? ⟨w.heap.size, 1, none⟩ = some (.int .i64 b) := fun x => by rw [(hBF x).cell hlt]; exact k1
  refine region (by kernel_rfl) (by kernel_rfl) hw0 hF ?_
  repeat go_big_quiet_step (first
    | (go_at_call 42
       (with_reducible refine (itoa_any _ (by assumption) (by assumption) _ (hT _)).mono ?_)
       rintro e w1 ⟨rfl, hb1⟩
       exact ⟨rfl, hF _ _ hb1⟩))
  refine wpQuiet_nil ?_
  rintro _ ⟨x, rfl⟩
  go_wp2
  go_ret
  exact ⟨rfl, hb0.trans ((hBF x).mono hb0.size)⟩
set_option maxHeartbeats 2000000 in
set_option maxRecDepth 100000 in
theorem refText_any (a b : Int) (a0 : -9223372036854775808 ≤ a) (a1 : a ≤ 9223372036854775807) (b0 : -9223372036854775808 ≤ b) (b1 : b ≤ 9223372036854775807) (w : World) :
    Calls Tryz.prog 18 #[.agg #[.int .i64 a, .int .i64 b]] w fun e w' => e = .returned (.string (textOf a b)) ∧ Below w.heap.size w w' := by
  have hb0 := (Below.refl w.heap.size w).alloc (Nat.le_refl _) (.cells #[.int .i64 a, .int .i64 b] 55)
  obtain ⟨k0, k1⟩ := boxed_cells w a b 55
  have hlt : w.heap.size < (w.alloc (.cells #[.int .i64 a, .int .i64 b] 55)).heap.size := by show _ < (w.heap.push _).size; simp
  have la := itoa_len a a0 a1
  have lb := itoa_len b b0 b1
  go_enter Tryz.func18, Tryz.ntmps18
  go_wp2_with fail
  generalize w.alloc (.cells #[.int .i64 a, .int .i64 b] 55) = w0 at *
  obtain ⟨X, F, hN, hBF, hw0, hF⟩ := worlds w0
  have c0 : ∀ x, (F x).cell? ⟨w.heap.size, 0, none⟩ = some (.int .i64 a) := fun x => by rw [(hBF x).cell hlt]; exact k0
  have c1 : ∀ x, (F x).cell? ⟨w.heap.size, 1, none⟩ = some (.int .i64 b) := fun x => by rw [(hBF x).cell hlt]; exact k1
  refine region (by kernel_rfl) (by kernel_rfl) hw0 hF ?_
  repeat go_big_quiet_step (first
    | (go_at_call 43
       (with_reducible refine (fmt_any _ (by assumption) (by assumption) _).mono ?_)
       rintro e w1 ⟨rfl, hb1⟩
       exact ⟨rfl, hF _ _ hb1⟩))
  refine wpQuiet_nil ?_
  rintro _ ⟨x, rfl⟩
  go_wp2
  go_ret
  exact ⟨rfl, hb0.trans ((hBF x).mono hb0.size)⟩
end Go.Proofs.YtcnclcfglfgjlaaGreatDoor.AuditText
