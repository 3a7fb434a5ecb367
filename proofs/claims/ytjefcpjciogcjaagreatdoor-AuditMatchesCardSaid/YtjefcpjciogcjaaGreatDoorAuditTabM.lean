/- The tables that the row of AuditMatches lists: what the walks read of them. No condition. -/
import Derived.Test.YtjefcpjciogcjaaGreatDoorRows
import Derived.Test.YtjefcpjciogcjaaGreatDoorG7
import Derived.Test.YtjefcpjciogcjaaGreatDoorAuditTabS
import Derived.Lib.LaidTab
import Derived.ChangeArms
import Derived.ChangeSame
namespace Go.Proofs.YtjefcpjciogcjaaGreatDoor
set_option maxRecDepth 100000
set_option linter.unusedVariables false
namespace AuditTabM
open Go Go.ChangeShapes Go.WideShapes Go.ChangeAt Go.RowKit
theorem held {W:World} (h:laidMetH Tryz.prog Rows.auditMatchesRow.laid W):ReMem.Tabs W:=by
 obtain⟨L,a,_⟩:laidMet Tryz.prog Rows.auditMatchesRow.laid W:=h;obtain⟨_,_,_,_,_,_,_,_,_,_,a,_⟩:=a;obtain⟨_,_,_,_,_,_,_,_,_,_,a,_⟩:=a;obtain⟨G,O,c2,D,J,M,o,q,A,d2,a,_⟩:=a;obtain⟨_,_,_,_,_,_,_,_,_,_,a,_⟩:=a;obtain⟨I,P,c4,E,K,N,p,r,m,d4,_,_⟩:=a;have c:Lib.TabIs Tryz.prog W "internal/strconv.uint64pow10" .u64 Lib.pow10Tab:=by
   have t:Tryz.prog.globalNamed "internal/strconv.uint64pow10" =some 1:=by kernel_rfl
   obtain rfl:=Option.some.inj (t.symm.trans o);have z:(Tryz.prog.globals[1]?).map (·.type)=some 220:=by kernel_rfl
   obtain rfl:=Option.some.inj (z.symm.trans q);rw[show (Rows.laid_internal_strconv_uint64pow10:DataW Unit)=Lib.tabData .u64 Lib.pow10Tab from by kernel_rfl]at d2;unfold Lib.TabIs;rw[A,<-Lib.cells_of_tab Tryz.underlying220 Tryz.underlying22 (by kernel_rfl) (by kernel_rfl) d2]
 have d:Tryz.prog.globalNamed "texttools/rematch.none" =some 0:=by kernel_rfl
 obtain rfl:=Option.some.inj (d.symm.trans p);have y:(Tryz.prog.globals[0]?).map (·.type)=some 53:=by kernel_rfl
 obtain rfl:=Option.some.inj (y.symm.trans r);obtain⟨Q,R,n,e,b,u,x⟩:=trod_struct2 Tryz.underlying53 d4;obtain⟨B,j,rfl,_⟩:=DataW.trod_int Tryz.underlying3 u;obtain⟨C,k1,rfl,_⟩:=DataW.trod_int Tryz.underlying3 x;have i:(DataW.agg [.lit (.int .i64 (-1)),.lit (.int .i64 (-1))]:DataW Unit)=.agg [.lit (.int .i64 B),.lit (.int .i64 C)]:=(Prod.mk.inj e).1;simp only[DataW.agg.injEq,List.cons.injEq,DataW.lit.injEq,Lit.int.injEq,true_and,and_true]at i;obtain⟨rfl,rfl⟩:=i;obtain⟨l⟩:=c4;have g:l.length=2:=b.trans (by kernel_rfl)
 match l,g with
 | [u0,u1],_=>
   simp[show Tryz.prog.cellsOf 3=1 from by kernel_rfl]at j k1;subst j k1;have c0:=World.var?_cell d m 0;have c1:=World.var?_cell d m 1;exact⟨c,c0,c1⟩
noncomputable def laidWorld (os:Os):World:=AuditTabS.laidWorld os
end AuditTabM
end Go.Proofs.YtjefcpjciogcjaaGreatDoor
