/- The closed facts of the row of AuditMatches, each by itself. -/
import Derived.Test.YtjefcpjciogcjaaGreatDoorRows
import Derived.Test.YtjefcpjciogcjaaGreatDoorProg
import Derived.JoinedCond
import Derived.WalkKit
import Derived.ProofKit
namespace Go.Proofs.YtjefcpjciogcjaaGreatDoor
set_option maxRecDepth 100000
set_option linter.unusedVariables false
namespace AuditMatchesFacts
open Go
theorem both {a b:Bool} (h:a=true) (k:b=true):(a&&b)=true:=by rw[h,k];rfl
theorem k1:(Rows.auditMatchesRow.wf (OpenSpec.ofChange (OpenSpec.ofChange Rows.auditMatchesSpec).bare))=true:=by kernel_rfl
theorem k2:(laidOutB Tryz.prog)=true:=by kernel_rfl
theorem k3:(mapsRowed Tryz.prog)=true:=by kernel_rfl
theorem k4:(Tryz.f3.params.all (Tryz.prog.readableRec ·))=true:=by kernel_rfl
theorem k5:(namedTie Tryz.prog Rows.auditMatchesRow.named (OpenSpec.ofChange Rows.auditMatchesSpec).bare.vars)=true:=by kernel_rfl
theorem k6:((Rows.auditMatchesRow.stops== []))=true:=by kernel_rfl
theorem k7:((Tryz.prog.stops== []))=true:=by kernel_rfl
theorem k8:((Rows.auditMatchesRow.knobs== []))=true:=by kernel_rfl
theorem k9:((Tryz.prog.stopKnobs== []))=true:=by kernel_rfl
theorem k10:((Rows.auditMatchesRow.inPlace==Tryz.prog.inPlace 3))=true:=by kernel_rfl
theorem k11:((Rows.auditMatchesRow.unfollowed==Tryz.prog.unfollowed 3))=true:=by kernel_rfl
theorem k12:((Rows.auditMatchesRow.recurses==Tryz.prog.recurses 3))=true:=by kernel_rfl
theorem k13:((Rows.auditMatchesRow.named==Tryz.prog.varsNamed 3))=true:=by kernel_rfl
theorem k14:((Rows.auditMatchesRow.maps==(Tryz.f3.params.toList++(OpenSpec.ofChange Rows.auditMatchesSpec).bare.plain.varTypes Tryz.prog).any (Tryz.prog.mapsRec ·)))=true:=by kernel_rfl
theorem k15:((Rows.auditMatchesRow.ifaces==(Tryz.f3.params.toList++(OpenSpec.ofChange Rows.auditMatchesSpec).bare.plain.varTypes Tryz.prog).any (Tryz.prog.ifacesRec ·)))=true:=by kernel_rfl
theorem k16:((Rows.auditMatchesRow.mapsOut==Tryz.prog.mapsAmong Tryz.f3.resultTypes.toList))=true:=by kernel_rfl
theorem k17:((Rows.auditMatchesRow.loops==(Tryz.f3.params.toList++(OpenSpec.ofChange Rows.auditMatchesSpec).bare.plain.varTypes Tryz.prog).any (Tryz.prog.loopsFrom ·)))=true:=by kernel_rfl
theorem k18:((Rows.auditMatchesRow.wideKeys==(Tryz.f3.params.toList++(OpenSpec.ofChange Rows.auditMatchesSpec).bare.plain.varTypes Tryz.prog++Tryz.f3.resultTypes.toList).any (Tryz.prog.wideKeysFrom ·)))=true:=by kernel_rfl
theorem k19:((OpenSpec.ofChange Rows.auditMatchesSpec).bare.vars.all (Tryz.prog.varReadable ·))=true:=by kernel_rfl
theorem k20:(Tryz.f3.resultTypes.all (fun t=>Tryz.prog.readableRec t&&decide (t<Tryz.prog.types.size)))=true:=by kernel_rfl
theorem k21:((Rows.auditMatchesRow.ifacesOut==Tryz.f3.resultTypes.toList.any (Tryz.prog.ifacesRec ·)))=true:=by kernel_rfl
theorem k22:((Rows.auditMatchesRow.loopsOut==Tryz.f3.resultTypes.toList.any (Tryz.prog.loopsFrom ·)))=true:=by kernel_rfl
theorem k23:((Rows.auditMatchesRow.plainKeys==Tryz.prog.plainKeys))=true:=by kernel_rfl
theorem k24:(Rows.auditMatchesRow.shortTexts.isNone)=true:=by kernel_rfl
theorem k25:(Tryz.prog.stopsHeard)=true:=by kernel_rfl
theorem k26:(Tryz.prog.mayEnter)=true:=by kernel_rfl
theorem k27:((Rows.auditMatchesRow.lifted==Tryz.prog.liftsFinal))=true:=by kernel_rfl
theorem k28:((Tryz.prog.make==some Rows.auditMatchesRow.make))=true:=by kernel_rfl
theorem k29:((Rows.auditMatchesRow.kinds==(if Rows.auditMatchesRow.domain.isEmpty then [] else Tryz.f3.params.toList.map fun t=>match Tryz.prog.underlying t with | some (.int k)=>some k | _=>none)))=true:=by kernel_rfl
theorem k30:((Rows.auditMatchesRow.pinned==Rows.auditMatchesRow.pinnedBy))=true:=by kernel_rfl
theorem k31:((Rows.auditMatchesRow.veiled==(Tryz.f3.params.toList++(OpenSpec.ofChange Rows.auditMatchesSpec).bare.plain.varTypes Tryz.prog++Tryz.f3.resultTypes.toList).any (Tryz.prog.veiledRec ·)))=true:=by kernel_rfl
theorem k32:(Rows.auditMatchesRow.veiledFits Tryz.prog Tryz.f3.params.toList (Tryz.f3.params.toList++(OpenSpec.ofChange Rows.auditMatchesSpec).bare.plain.varTypes Tryz.prog++Tryz.f3.resultTypes.toList))=true:=by kernel_rfl
theorem closed:joinedFacts Tryz.prog 3 Tryz.f3 (OpenSpec.ofChange Rows.auditMatchesSpec).bare Rows.auditMatchesRow=true:=(both (both (both (both (both (both (both (both (both (both (both (both (both (both (both (both (both (both (both (both (both (both (both (both (both (both (both (both (both (both (both k1 k2) k3) k4) k5) k6) k7) k8) k9) k10) k11) k12) k13) k14) k15) k16) k17) k18) k19) k20) k21) k22) k23) k24) k25) k26) k27) k28) k29) k30) k31) k32)
end AuditMatchesFacts
end Go.Proofs.YtjefcpjciogcjaaGreatDoor
