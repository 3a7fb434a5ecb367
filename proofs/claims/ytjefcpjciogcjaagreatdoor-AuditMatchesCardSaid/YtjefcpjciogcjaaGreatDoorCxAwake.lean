/- awake returns true: the machine of CxEval computes it. -/
import Derived.Test.YtjefcpjciogcjaaGreatDoorCxDflt1
import Derived.Test.YtjefcpjciogcjaaGreatDoorCxDflt2
namespace Go.Proofs.YtjefcpjciogcjaaGreatDoor
set_option maxRecDepth 100000
set_option linter.unusedVariables false
open Tryz
namespace Cx
open Go
theorem awake_wakes:wakes Tryz.prog [dflt1,dflt2] 100000 6=true:=by decide +kernel
theorem awake_calls (w:World):Calls Tryz.prog 6 #[] w fun e w'=>e=.returned (.bool true)/\RowKit.Below w.heap.size w w':=
 wakes_calls rfl (fun x a=>by
  simp only[List.mem_cons,List.not_mem_nil,or_false]at a;rcases a with rfl | rfl
  · exact dflt1_ok
  · exact dflt2_ok) awake_wakes w
end Cx
end Go.Proofs.YtjefcpjciogcjaaGreatDoor
