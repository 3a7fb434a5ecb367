/- awake returns true: the machine of CxEval computes it. -/
import Derived.Test.YtkekpiillbpciaaGreatDoorCxDflt1
import Derived.Test.YtkekpiillbpciaaGreatDoorCxDflt2
namespace Go.Proofs.YtkekpiillbpciaaGreatDoor.Cx
open Go
theorem awake_wakes : wakes Tryz.prog [dflt1, dflt2] 100000 5 = true := by decide +kernel
theorem awake_calls (w : World) : Calls Tryz.prog 5 #[] w fun e w' => e = .returned (.bool true) ∧ RowKit.Below w.heap.size w w' :=
  wakes_calls rfl (fun x hx => by
    simp only [List.mem_cons, List.not_mem_nil, or_false] at hx
    rcases hx with rfl | rfl
    · exact dflt1_ok
    · exact dflt2_ok) awake_wakes w
end Go.Proofs.YtkekpiillbpciaaGreatDoor.Cx
