/- The walk of AuditTexts: it returns true; the library's table of powers of ten must hold its twenty numbers. -/
import Derived.Test.YtcnclcfglfgjlaaGreatDoorAuditText
import Derived.Test.YtcnclcfglfgjlaaGreatDoorCxAwake
namespace Go.Proofs.YtcnclcfglfgjlaaGreatDoor.AuditTextsWalk
open Go Go.RowKit Quietly AuditText NumFmt

theorem awake_any (w : World) : Calls Tryz.prog 9 #[] w fun e w' => e = .returned (.bool true) ∧ Below w.heap.size w w' := Cx.awake_calls w
set_option maxHeartbeats 2000000 in
set_option maxRecDepth 100000 in
theorem walk (a b : Int) (a0 : -9223372036854775808 ≤ a) (a1 : a ≤ 9223372036854775807) (b0 : -9223372036854775808 ≤ b) (b1 : b ≤ 9223372036854775807) (w : World) (ht : Held w) :
    Calls Tryz.prog 5 #[.agg #[.int .i64 a, .int .i64 b]] w fun e w' => e = .returned (.bool true) ∧ Below w.heap.size w w' := by
  have hb0 := (Below.refl w.heap.size w).alloc (Nat.le_refl _) (.cells #[.int .i64 a, .int .i64 b] 55)
  have ht0 := Lib.tabIs_alloc ht (.cells #[.int .i64 a, .int .i64 b] 55)
  obtain ⟨k0, k1⟩ := boxed_cells w a b 55
  have hlt : w.heap.size < (w.alloc (.cells #[.int .i64 a, .int .i64 b] 55)).heap.size := by show _ < (w.heap.push _).size; simp
  go_enter Tryz.func5, Tryz.ntmps5
  go_wp2_with fail
  generalize w.alloc (.cells #[.int .i64 a, .int .i64 b] 55) = w0 at *
  clear ht
  obtain ⟨X, F, hN, hBF, hw0, hF⟩ := worlds w0
  have hT : ∀ x, Held (F x) := fun x => Lib.tabBelow_of_tabIs ht0 _ (hBF x)
  have c0 : ∀ x, (F x).cell? ⟨w.heap.size, 0, none⟩ = some (.int .i64 a) := fun x => by rw [(hBF x).cell hlt]; exact k0
  have c1 : ∀ x, (F x).cell? ⟨w.heap.size, 1, none⟩ = some (.int .i64 b) := fun x => by rw [(hBF x).cell hlt]; exact k1
  refine region (by kernel_rfl) (by kernel_rfl) hw0 hF ?_
  repeat go_big_quiet_step (first
    | (go_at_call 17
       (with_reducible refine (text_any _ _ (by assumption) (by assumption) (by assumption) (by assumption) _ (hT _)).mono ?_)
       rintro e w1 ⟨rfl, hb1⟩
       exact ⟨rfl, hF _ _ hb1⟩)
    | (go_at_call 18
       (with_reducible refine (refText_any _ _ (by assumption) (by assumption) (by assumption) (by assumption) _).mono ?_)
       rintro e w1 ⟨rfl, hb1⟩
       exact ⟨rfl, hF _ _ hb1⟩)
    | (go_at_call 9
       (with_reducible refine (awake_any _).mono ?_)
       rintro e w1 ⟨rfl, hb1⟩
       exact ⟨rfl, hF _ _ hb1⟩))
  refine wpQuiet_nil ?_
  rintro _ ⟨x, rfl⟩
  go_wp2
  go_ret
  exact ⟨rfl, hb0.trans ((hBF x).mono hb0.size)⟩
theorem whole (a b : Int) (w : World) (h : -9223372036854775808 ≤ a ∧ a ≤ 9223372036854775807 ∧ -9223372036854775808 ≤ b ∧ b ≤ 9223372036854775807) (ht : Held w) :
    Calls Tryz.prog 5 #[.agg #[.int .i64 a, .int .i64 b]] w fun e w' => e = .returned (.bool true) ∧ Below w.heap.size w w' := walk a b h.1 h.2.1 h.2.2.1 h.2.2.2 w ht
end Go.Proofs.YtcnclcfglfgjlaaGreatDoor.AuditTextsWalk
