/- '==' of sets compares their four words. No condition. -/
import Derived.Test.YtncdcdgmmbcbfaaDoorProg
import Derived.Test.YtncdcdgmmbcbfaaDoorSetMath
import Derived.WalkKit
import Derived.Handy
import Derived.Laws.StructEq
import Derived.ChangeKeysEq
namespace Go.Proofs.YtncdcdgmmbcbfaaDoor.CharEq
open Go Go.RowKit
theorem eq_words (a0 a1 a2 a3 b0 b1 b2 b3 : Int) (w : World) :
    (binOp .eql 26 (.agg #[.int .u64 a0, .int .u64 a1, .int .u64 a2, .int .u64 a3]) (.agg #[.int .u64 b0, .int .u64 b1, .int .u64 b2, .int .u64 b3])).run Tryd.prog w = .ok (.bool (a0 == b0 && (a1 == b1 && (a2 == b2 && a3 == b3)))) w := by
  have u3 := Tryd.underlying23
  have u4 := Tryd.underlying24
  have hS : Tryd.prog.underlying 26 = some (.struct (Tryd.prog.fieldsOf 26)) := by kernel_rfl
  have hp : Tryd.prog.stoodInHeld 26 = false := by kernel_rfl
  have hp4 : Tryd.prog.stoodInHeld 24 = false := by kernel_rfl
  rw [run_eql_struct, show (10000 : Nat) = 9998 + 1 + 1 from rfl, run_equalIn_agg w (9998 + 1) 26 _ _ hS hp]
  simp only [Program.fieldsOf, Tryd.underlying26]
  have hs : (Tryd.prog.info? 23).isSome = true := by kernel_rfl
  obtain ⟨i, hi⟩ := Option.isSome_iff_exists.1 hs
  have hc : Tryd.prog.cellsOf 23 = 1 := by kernel_rfl
  have hA := run_equalIn_array (P := Tryd.prog) w 9998 #[.int .u64 a0, .int .u64 a1, .int .u64 a2, .int .u64 a3] #[.int .u64 b0, .int .u64 b1, .int .u64 b2, .int .u64 b3] u4 hi
  rw [hc] at hA
  have hr : List.range 4 = [0, 1, 2, 3] := rfl
  rw [hr] at hA
  go_simp
  simp only [Op.eqItems]
  go_simp
  repeat' split
  all_goals simp_all
/-- '==' of a set and itself -/
theorem eq_same (a0 a1 a2 a3 : Int) (w : World) :
    (binOp .eql 26 (.agg #[.int .u64 a0, .int .u64 a1, .int .u64 a2, .int .u64 a3]) (.agg #[.int .u64 a0, .int .u64 a1, .int .u64 a2, .int .u64 a3])).run Tryd.prog w = .ok (.bool true) w := by
  rw [eq_words]; simp
end Go.Proofs.YtncdcdgmmbcbfaaDoor.CharEq
