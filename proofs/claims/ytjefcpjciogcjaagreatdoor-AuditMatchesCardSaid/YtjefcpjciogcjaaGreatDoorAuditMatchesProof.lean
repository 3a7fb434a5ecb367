/- AuditMatches returns true for every input, and its arguments read as before; the listed table holds what the program lays in it (tied by the card). -/
import Derived.Test.YtjefcpjciogcjaaGreatDoorCards
import Derived.Test.YtjefcpjciogcjaaGreatDoorTie
import Derived.Test.YtjefcpjciogcjaaGreatDoorG40
import Derived.Test.YtjefcpjciogcjaaGreatDoorAuditTabM
import Derived.Test.YtjefcpjciogcjaaGreatDoorAuditMatchesFacts
import Derived.ProofKit
import Derived.OpenShut
import Derived.ShutString
import Derived.ChangeOld
import Derived.SliceStrings
import Derived.Deep.DeepHandedRow
import Derived.Lib.LaidTab
namespace Go.Proofs.YtjefcpjciogcjaaGreatDoor
set_option maxRecDepth 100000
set_option linter.unusedVariables false
namespace AuditMatchesProof
open Go.ChangeShapes Go.WideShapes Go.ChangeAt Go.RowKit
open Go.ChangeMaps (open_string shut_string)
set_option linter.unusedVariables false
theorem own:ownKnob Tryz.prog.godebug=none:=by kernel_rfl
theorem laidOut:laidOutB Tryz.prog=true:=by kernel_rfl
theorem contract (H:Type) (enc:TypeId×Value->H) (W:World) (base:Nat) (args:Array Value) (C R:List (DataW H)) (b:List MemPlace)
  (a:∀(j:Nat) t v,Tryz.f3.params[j]? =some t->args[j]? =some v->Value.okWide Tryz.prog W .any base t v)
  (I:DataW.Whole enc Tryz.prog Tryz.f3.params.toList Rows.auditMatchesSpec.vars false W args.toList C R b) (T:laidMetH Tryz.prog Rows.auditMatchesRow.laid W):
  Calls Tryz.prog 3 args W fun e W'=>∃v,e=.returned v/\Rows.auditMatchesSpec.post enc Tryz.prog Tryz.f3 false true false false W args v W':=by
 have d:=I;obtain⟨p,q,c,U,rfl,X,Y⟩:=I;have G:DataW.TrodAll enc Tryz.prog W 0 (fun _=>true) true Tryz.f3.params.toList args.toList C p:=c;rw[Tryz.params3]at G a;obtain⟨K,a0,d0,O,p0,q0,g,rfl,rfl,D,r0⟩:=trodAll_cons G;obtain⟨L,a2,d1,P,p1,q1,rfl,rfl,rfl,S,r1⟩:=trodAll_cons r0;obtain⟨B,a3,d2,Q,p2,q2,rfl,rfl,rfl,E,r2⟩:=trodAll_cons r1;obtain⟨rfl,rfl,rfl⟩:=trodAll_nil r2;obtain rfl:args=#[K,L,B]:=by cases args;simp_all
 obtain⟨rfl,rfl⟩:=trodVars_none U;have J:=D;have l:∀x∈p0,x.block<W.heap.size:=by obtain⟨m,i⟩:=J;exact DataW.trod_lt m _ _ _ i
 obtain⟨z,u,y,A,r,rfl,w0,u0⟩:=ReMem.open_regex (a 0 30 K rfl rfl) D;obtain⟨N,rfl,rfl,rfl,M⟩:=open_string Tryz.underlying9 (a 1 9 L rfl rfl) S;have k2:=E;have n:∀x∈p2,x.block<W.heap.size:=by obtain⟨m,i⟩:=k2;exact DataW.trod_lt m _ _ _ i
 obtain⟨o,w2⟩:=ReMem.open_matches (a 2 31 B rfl rfl) E;clear c;refine (AuditMatchesWalk.whole z u y r A N B o W w0 u0 M w2 (AuditTabM.held T)).mono fun e W' ⟨V,bel⟩=>?_;subst V;exact⟨_,rfl,_,_,_,[],_,[],d,trodAll_mk1 (shut_bool Tryz.underlying4 _),(trodAll_cons_mk (Below.trod laidOut (by kernel_rfl) (of_decide_eq_true (by kernel_rfl)) J bel l) (trodAll_cons_mk (shut_string Tryz.underlying9 M) (trodAll_cons_mk (Below.trod laidOut (by kernel_rfl) (of_decide_eq_true (by kernel_rfl)) k2 bel n) trodAll_mk0))),rfl,bel.frame _,fun h=>by cases h⟩
noncomputable def laidWorld (os:Os):World:=AuditTabM.laidWorld os
theorem laid_met (os:Os):laidMet Tryz.prog Rows.auditMatchesRow.laid ((laidWorld os).forCall (fun _ _=>0) ⟨#[],#[.agg #[.string ⟨#[]⟩,.int .i64 0,.int .i64 0,.int .i64 0,.int .u64 0,.int .u64 0,.int .u64 0,.int .u64 0,.int .i64 0,.int .i64 0,.int .i64 0,.slice none 0 0],.string ⟨#[]⟩,.slice none 0 0],[]⟩).memory:=
 laidMet_of_run' 8 (by kernel_rfl) (by kernel_rfl)
theorem reads (os:Os) {H:Type} (enc:TypeId×Value->H):∃places,DataW.whole enc Tryz.prog ((laidWorld os).forCall (fun _ _=>0) ⟨#[],#[.agg #[.string ⟨#[]⟩,.int .i64 0,.int .i64 0,.int .i64 0,.int .u64 0,.int .u64 0,.int .u64 0,.int .u64 0,.int .i64 0,.int .i64 0,.int .i64 0,.slice none 0 0],.string ⟨#[]⟩,.slice none 0 0],[]⟩).memory Tryz.f3.params.toList Rows.auditMatchesSpec.vars false (#[.agg #[.string ⟨#[]⟩,.int .i64 0,.int .i64 0,.int .i64 0,.int .u64 0,.int .u64 0,.int .u64 0,.int .u64 0,.int .i64 0,.int .i64 0,.int .i64 0,.slice none 0 0],.string ⟨#[]⟩,.slice none 0 0]:Array Value).toList 8=some ([.agg [.lit (.string []),.lit (.int .i64 0),.lit (.int .i64 0),.agg [.lit (.int .i64 0),.agg [.agg [.lit (.int .u64 0),.lit (.int .u64 0),.lit (.int .u64 0),.lit (.int .u64 0)]],.lit (.int .i64 0),.lit (.int .i64 0),.lit (.int .i64 0),.nil]],.lit (.string []),.nil],[],places):=
 ⟨[],by kernel_rfl⟩
set_option maxRecDepth 100000 in
theorem lifted (os:Os) (a:os.Started) (H:Type) (enc:TypeId×Value->H) (F:Stop.Interp):
  ReturnsInHanded {} Tryz.checked os 3 .any ((OpenSpec.ofChange Rows.auditMatchesSpec).preRow enc Tryz.prog Tryz.f3 Rows.auditMatchesRow.domain false Rows.auditMatchesRow.laid) (((OpenSpec.ofChange Rows.auditMatchesSpec).at F).post enc Tryz.prog Tryz.f3 false true false false):=by
 obtain⟨e,m⟩:=reads os enc;refine returnsInHanded_of_row (C:=Tryz.checked) (s:=(OpenSpec.ofChange Rows.auditMatchesSpec)) own a (by kernel_rfl) Tryz.func3
  (witness_row_at (enc:=enc) (C:=Tryz.checked) false (laidWorld os) #[.agg #[.string ⟨#[]⟩,.int .i64 0,.int .i64 0,.int .i64 0,.int .u64 0,.int .u64 0,.int .u64 0,.int .u64 0,.int .i64 0,.int .i64 0,.int .i64 0,.slice none 0 0],.string ⟨#[]⟩,.slice none 0 0] rfl (by kernel_rfl) (by kernel_rfl) (by kernel_rfl)
    (OpenSpec.preRow_of_cond 8 m (by kernel_rfl) (fun k l=>by cases l) (by kernel_rfl) (laid_met os))) ?_
 intro W c args g h b d j _ _ _ i _ _;exact contract H enc W c args g h b d j i
theorem said:Rows.AuditMatchesSaid:=
 OpenClaim.holds_of_cond 3 Tryz.f3 rfl rfl rfl rfl rfl rfl rfl ⟨rfl,rfl,rfl,rfl,rfl⟩ rfl rfl rfl rfl rfl (by kernel_rfl) Tryz.func3 AuditMatchesFacts.closed
  (of_decide_eq_true (by kernel_rfl)) (by unfold Func.isWrapper;first | (rw [if_pos (by decide +kernel)];kernel_rfl) | (rw [if_neg (by decide +kernel)];exact⟨rfl,rfl⟩))
  (fun os a H b _ F=>by rw[OpenClaim.pre_eq_preRow];exact lifted os a H b F)
theorem plain (f:FuncId) (fn:Func) (d:Tryz.pinned.checked.prog.funcNamed "texttools/texttoolslaw59.AuditMatches" =some f) (a:Tryz.pinned.checked.prog.funcs[f]? =some fn):
  true=Tryz.pinned.checked.prog.looks []/\∀(j:Nat) t,fn.params[j]? =some t->Tryz.pinned.checked.prog.wantsStandIn t=false:=by
 obtain rfl:f=3:=Option.some.inj ((show Tryz.prog.funcNamed "texttools/texttoolslaw59.AuditMatches" =some 3 by kernel_rfl).symm.trans d) |>.symm
 obtain rfl:fn=Tryz.f3:=(Option.some.inj (Tryz.func3.symm.trans a)).symm;refine⟨by kernel_rfl,fun j t c=>?_⟩;rw[Tryz.params3]at c;have b:=Array.mem_of_getElem? c;simp only[List.mem_toArray,List.mem_cons,List.not_mem_nil,or_false]at b;rcases b with rfl | rfl | rfl
 · exact (show Tryz.prog.wantsStandIn 30=false by kernel_rfl)
 · exact (show Tryz.prog.wantsStandIn 9=false by kernel_rfl)
 · exact (show Tryz.prog.wantsStandIn 31=false by kernel_rfl)
theorem card:Rows.AuditMatchesCardSaid:=
 Claim7.holds_tied_plain_at .later [] _ _ _ _ said (fun _ h=>by cases h) (by kernel_rfl) (fun _ h=>by cases h) auditMatches_row_tie rfl ⟨rfl,rfl⟩ (by kernel_rfl) rfl plain (by kernel_rfl)
end AuditMatchesProof
end Go.Proofs.YtjefcpjciogcjaaGreatDoor
