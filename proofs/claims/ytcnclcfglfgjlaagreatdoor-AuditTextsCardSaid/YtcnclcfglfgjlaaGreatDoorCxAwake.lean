/- awake returns true: the machine of CxEval computes it. -/
import Derived.Test.YtcnclcfglfgjlaaGreatDoorCxDflt1
import Derived.Test.YtcnclcfglfgjlaaGreatDoorCxDflt2
namespace Go.Proofs.YtcnclcfglfgjlaaGreatDoor.Cx
open Go
theorem awake_wakes : wakes Tryz.prog [dflt1, dflt2] 100000 9 = true := by decide +kernel
theorem awake_calls (w : World) : Calls Tryz.prog 9 #[] w fun e w' => e = .returned (.bool true) ∧ RowKit.Below w.heap.size w w' :=
  wakes_calls rfl (fun x hx => by
    simp only [List.mem_cons, List.not_mem_nil, or_false] at hx
    rcases hx with rfl | rfl
    · exact dflt1_ok
    · exact dflt2_ok) awake_wakes w
end Go.Proofs.YtcnclcfglfgjlaaGreatDoor.Cx
