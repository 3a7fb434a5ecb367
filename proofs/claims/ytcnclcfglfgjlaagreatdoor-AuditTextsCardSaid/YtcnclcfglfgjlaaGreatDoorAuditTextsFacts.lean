/- The closed facts of the row of AuditTexts, each by itself. -/
import Derived.Test.YtcnclcfglfgjlaaGreatDoorRows
import Derived.Test.YtcnclcfglfgjlaaGreatDoorProg
import Derived.JoinedCond
import Derived.WalkKit
import Derived.ProofKit
namespace Go.Proofs.YtcnclcfglfgjlaaGreatDoor.AuditTextsFacts
open Go
set_option maxRecDepth 100000
theorem both {a b : Bool} (h : a = true) (k : b = true) : (a && b) = true := by rw [h, k]; rfl
theorem k1 : (Rows.auditTextsRow.wf (OpenSpec.ofChange (OpenSpec.ofChange Rows.auditTextsSpec).bare)) = true := by kernel_rfl
theorem k2 : (laidOutB Tryz.prog) = true := by kernel_rfl
theorem k3 : (mapsRowed Tryz.prog) = true := by kernel_rfl
theorem k4 : (Tryz.f5.params.all (Tryz.prog.readableRec ·)) = true := by kernel_rfl
theorem k5 : (namedTie Tryz.prog Rows.auditTextsRow.named (OpenSpec.ofChange Rows.auditTextsSpec).bare.vars) = true := by kernel_rfl
theorem k6 : ((Rows.auditTextsRow.stops == [])) = true := by kernel_rfl
theorem k7 : ((Tryz.prog.stops == [])) = true := by kernel_rfl
theorem k8 : ((Rows.auditTextsRow.knobs == [])) = true := by kernel_rfl
theorem k9 : ((Tryz.prog.stopKnobs == [])) = true := by kernel_rfl
theorem k10 : ((Rows.auditTextsRow.inPlace == Tryz.prog.inPlace 5)) = true := by kernel_rfl
theorem k11 : ((Rows.auditTextsRow.unfollowed == Tryz.prog.unfollowed 5)) = true := by kernel_rfl
theorem k12 : ((Rows.auditTextsRow.recurses == Tryz.prog.recurses 5)) = true := by kernel_rfl
theorem k13 : ((Rows.auditTextsRow.named == Tryz.prog.varsNamed 5)) = true := by kernel_rfl
theorem k14 : ((Rows.auditTextsRow.maps == (Tryz.f5.params.toList ++ (OpenSpec.ofChange Rows.auditTextsSpec).bare.plain.varTypes Tryz.prog).any (Tryz.prog.mapsRec ·))) = true := by kernel_rfl
theorem k15 : ((Rows.auditTextsRow.ifaces == (Tryz.f5.params.toList ++ (OpenSpec.ofChange Rows.auditTextsSpec).bare.plain.varTypes Tryz.prog).any (Tryz.prog.ifacesRec ·))) = true := by kernel_rfl
theorem k16 : ((Rows.auditTextsRow.mapsOut == Tryz.prog.mapsAmong Tryz.f5.resultTypes.toList)) = true := by kernel_rfl
theorem k17 : ((Rows.auditTextsRow.loops == (Tryz.f5.params.toList ++ (OpenSpec.ofChange Rows.auditTextsSpec).bare.plain.varTypes Tryz.prog).any (Tryz.prog.loopsFrom ·))) = true := by kernel_rfl
theorem k18 : ((Rows.auditTextsRow.wideKeys == (Tryz.f5.params.toList ++ (OpenSpec.ofChange Rows.auditTextsSpec).bare.plain.varTypes Tryz.prog ++ Tryz.f5.resultTypes.toList).any (Tryz.prog.wideKeysFrom ·))) = true := by kernel_rfl
theorem k19 : ((OpenSpec.ofChange Rows.auditTextsSpec).bare.vars.all (Tryz.prog.varReadable ·)) = true := by kernel_rfl
theorem k20 : (Tryz.f5.resultTypes.all (fun t => Tryz.prog.readableRec t && decide (t < Tryz.prog.types.size))) = true := by kernel_rfl
theorem k21 : ((Rows.auditTextsRow.ifacesOut == Tryz.f5.resultTypes.toList.any (Tryz.prog.ifacesRec ·))) = true := by kernel_rfl
theorem k22 : ((Rows.auditTextsRow.loopsOut == Tryz.f5.resultTypes.toList.any (Tryz.prog.loopsFrom ·))) = true := by kernel_rfl
theorem k23 : ((Rows.auditTextsRow.plainKeys == Tryz.prog.plainKeys)) = true := by kernel_rfl
theorem k24 : (Rows.auditTextsRow.shortTexts.isNone) = true := by kernel_rfl
theorem k25 : (Tryz.prog.stopsHeard) = true := by kernel_rfl
theorem k26 : (Tryz.prog.mayEnter) = true := by kernel_rfl
theorem k27 : ((Rows.auditTextsRow.lifted == Tryz.prog.liftsFinal)) = true := by kernel_rfl
theorem k28 : ((Tryz.prog.make == some Rows.auditTextsRow.make)) = true := by kernel_rfl
theorem k29 : ((Rows.auditTextsRow.kinds == (if Rows.auditTextsRow.domain.isEmpty then [] else Tryz.f5.params.toList.map fun t => match Tryz.prog.underlying t with | some (.int k) => some k | _ => none))) = true := by kernel_rfl
theorem k30 : ((Rows.auditTextsRow.pinned == Rows.auditTextsRow.pinnedBy)) = true := by kernel_rfl
theorem k31 : ((Rows.auditTextsRow.veiled == (Tryz.f5.params.toList ++ (OpenSpec.ofChange Rows.auditTextsSpec).bare.plain.varTypes Tryz.prog ++ Tryz.f5.resultTypes.toList).any (Tryz.prog.veiledRec ·))) = true := by kernel_rfl
theorem k32 : (Rows.auditTextsRow.veiledFits Tryz.prog Tryz.f5.params.toList (Tryz.f5.params.toList ++ (OpenSpec.ofChange Rows.auditTextsSpec).bare.plain.varTypes Tryz.prog ++ Tryz.f5.resultTypes.toList)) = true := by kernel_rfl
theorem closed : joinedFacts Tryz.prog 5 Tryz.f5 (OpenSpec.ofChange Rows.auditTextsSpec).bare Rows.auditTextsRow = true := (both (both (both (both (both (both (both (both (both (both (both (both (both (both (both (both (both (both (both (both (both (both (both (both (both (both (both (both (both (both (both k1 k2) k3) k4) k5) k6) k7) k8) k9) k10) k11) k12) k13) k14) k15) k16) k17) k18) k19) k20) k21) k22) k23) k24) k25) k26) k27) k28) k29) k30) k31) k32)
end Go.Proofs.YtcnclcfglfgjlaaGreatDoor.AuditTextsFacts
