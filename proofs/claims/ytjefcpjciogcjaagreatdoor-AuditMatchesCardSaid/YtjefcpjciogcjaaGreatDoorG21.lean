/- Lemmas for the walk of the law, in 2 parts. No condition beyond what each states. -/
import Derived.Test.YtjefcpjciogcjaaGreatDoorG20
import Derived.Test.YtjefcpjciogcjaaGreatDoorG6
namespace Go.Proofs.YtjefcpjciogcjaaGreatDoor
set_option maxRecDepth 100000
set_option linter.unusedVariables false
set_option maxHeartbeats 16000000
open List renaming setIfInBounds_toArray->yT,set_cons_zero->y9,set_cons_succ->yS
open Tryz
namespace ReMem
open Go Go.RowKit MatchMath
def Dv (x:Re) (l h:Int):Re:=if simple l h=true then repT x l h else repeated x l h
theorem countedP_any (B:Nat->Prop) (x:Re) (v:Value) (lo hi:Int) (w:World) (hf:Ag x) (hl:LiesB B w v x.args) (hB:∀b,w.heap.size<=b->B b) (hc:counted lo hi=true):
  Calls Tryz.prog 163 #[Ac v x,.int .i64 lo,.int .i64 hi] w fun r w'=>(∃v',r=.returned (Ac v' (Dv x lo hi))/\LiesB B w' v' (Dv x lo hi).args)/\qw w w':=by
 have d:=Dw hc;clear hc;obtain⟨M,N,rfl⟩:=hl.lies.shape;have f1:∀W:World,w.heap.size+2<=W.heap.size->∀b,W.heap.size<=b->(fun b=>B b/\b≠w.heap.size+1) b:=fun W hW b d=>⟨hB b (by omega),by omega⟩;have L:=qh (fun (D:Nat->Prop) (W:World) lo hi (K:qw w W) (g:∀b,b<w.heap.size->B b->D b) (E:∀b,W.heap.size<=b->D b)=>Ez D x (.slice M x.args.length N) lo hi W hf ((hl.mono g).stays K) E);have a0:=qh (fun (D:Nat->Prop) (W:World) n (K:qw w W) (g:∀b,b<w.heap.size->B b->D b) (E:∀b,W.heap.size<=b->D b) (hn:n<=4096)=>Bx D x (.slice M x.args.length N) n W hf ((hl.mono g).stays K) E hn);have R:=qh (fun (D:Nat->Prop) (W:World) n lo hi M N (hn:n<=4096) (E:∀b,W.heap.size<=b->D b) (hr:LiesB D W (.slice M 1 N) (repT x lo hi).args) (hfr:Ag (repT x lo hi))=>Bx D (repT x lo hi) (.slice M 1 N) n W hfr hr E hn);have Q:Hid (∀b,b<w.heap.size->B b->(fun b=>B b/\b≠w.heap.size+1) b):=fun b d h=>⟨h,by omega⟩;have HL:=qh hl;have HF:=qh hf;have g7:=qh hB;have i:=qh f1;obtain⟨l,a5,f2,p⟩:=TB.two w (xL x M N) ZL0;have e0:=Aj 0;have e1:=Aj 1;have e2:=Aj 2;have e3:=Aj 3;unfold Ac at L a0 R ⊢;simp only[repT,Re.op,Re.lo,Re.hi,Re.group,Re.args,Re.set,e0,e1,e2,e3,List.length_singleton,List.length_cons,List.length_nil]at R;clear hl hf hB f1;by_cases hs:simple lo hi=true
 ·rw[show Dv x lo hi=repT x lo hi from if_pos hs]
  have g6:lo=0/\hi=1\/lo=0/\hi= -1\/lo=1/\hi= -1:=by have:=Pg.1 hs;omega
  clear hs d;rcases g6 with ⟨rfl,rfl⟩ | ⟨rfl,rfl⟩ | ⟨rfl,rfl⟩
  ·go_enter func163,ntmps163
   go_wp2_with (first
    | (go_at_call 201
       (refine (L.o (fun b=>B b/\b≠w.heap.size+1) _ _ _ l.o Q.o (i.o _ p.o)).mono ?_);rintro a7 w1 ⟨⟨v1,rfl,g⟩,j⟩;obtain⟨u,c1,rfl⟩:=g.lies.shape;have T:=qh g;have G:=qh (Ab l.o j);have y:=qh (a5.o.stays j);obtain⟨d0,d1,d2,d3,d4,d5,d6,d7,d8⟩:=y.o.nine;obtain⟨z0,z1,z2,z3,z4,z5,z6,z7,z8⟩:=y.o.free9;simp only[repT,Re.op,Re.lo,Re.hi,Re.group,Re.args,Re.set,e0,e1,e2,e3,List.length_singleton,List.length_cons,List.length_nil];clear g j))
   have J:=(y.o.put9 (.int .i64 5) (.int .u64 0) (.int .u64 0) (.int .u64 0) (.int .u64 0) (.int .i64 0) (.int .i64 (1)) (.int .i64 0) (.slice u 1 c1)).nine;try unfold put9 at J
   obtain⟨n0,n1,n2,n3,n4,n5,n6,n7,n8⟩:=J;try simp only[Exit.inBlock,Exit.then]
   refine bodyPost_ret (v:=.agg (ZA 5 0 (1) 0 (.slice u 1 c1))) (by simp[results,results163,go_sem,n0,n1,n2,n3,n4,n5,n6,n7,n8]) rfl ?_;refine⟨⟨.slice u 1 c1,?_,?_⟩,?_⟩
   ·show _=Ending.returned (.agg #[.int .i64 5,.int .u64 (Sets.Aa noP 0:Nat),.int .u64 (Sets.Aa noP 1:Nat),.int .u64 (Sets.Aa noP 2:Nat),.int .u64 (Sets.Aa noP 3:Nat),.int .i64 0,.int .i64 (1),.int .i64 0,_])
    rw[e0,e1,e2,e3];rfl
   · exact (T.o.chg (Av _ _ (.int .i64 5) (.int .u64 0) (.int .u64 0) (.int .u64 0) (.int .u64 0) (.int .i64 0) (.int .i64 (1)) (.int .i64 0) (.slice u 1 c1)) (fun b d e=>d.2 e)).mono (fun b _ d=>d.1)
   · exact G.o.trans ((Av _ _ (.int .i64 5) (.int .u64 0) (.int .u64 0) (.int .u64 0) (.int .u64 0) (.int .i64 0) (.int .i64 (1)) (.int .i64 0) (.slice u 1 c1)).below G.o.size (fun k hk e=>by omega))
  ·go_enter func163,ntmps163
   go_wp2_with (first
    | (go_at_call 201
       (refine (L.o (fun b=>B b/\b≠w.heap.size+1) _ _ _ l.o Q.o (i.o _ p.o)).mono ?_);rintro a7 w1 ⟨⟨v1,rfl,g⟩,j⟩;obtain⟨u,c1,rfl⟩:=g.lies.shape;have T:=qh g;have G:=qh (Ab l.o j);have y:=qh (a5.o.stays j);obtain⟨d0,d1,d2,d3,d4,d5,d6,d7,d8⟩:=y.o.nine;obtain⟨z0,z1,z2,z3,z4,z5,z6,z7,z8⟩:=y.o.free9;simp only[repT,Re.op,Re.lo,Re.hi,Re.group,Re.args,Re.set,e0,e1,e2,e3,List.length_singleton,List.length_cons,List.length_nil];clear g j))
   have J:=(y.o.put9 (.int .i64 5) (.int .u64 0) (.int .u64 0) (.int .u64 0) (.int .u64 0) (.int .i64 0) (.int .i64 (-1)) (.int .i64 0) (.slice u 1 c1)).nine;try unfold put9 at J
   obtain⟨n0,n1,n2,n3,n4,n5,n6,n7,n8⟩:=J;try simp only[Exit.inBlock,Exit.then]
   refine bodyPost_ret (v:=.agg (ZA 5 0 (-1) 0 (.slice u 1 c1))) (by simp[results,results163,go_sem,n0,n1,n2,n3,n4,n5,n6,n7,n8]) rfl ?_;refine⟨⟨.slice u 1 c1,?_,?_⟩,?_⟩
   ·show _=Ending.returned (.agg #[.int .i64 5,.int .u64 (Sets.Aa noP 0:Nat),.int .u64 (Sets.Aa noP 1:Nat),.int .u64 (Sets.Aa noP 2:Nat),.int .u64 (Sets.Aa noP 3:Nat),.int .i64 0,.int .i64 (-1),.int .i64 0,_])
    rw[e0,e1,e2,e3];rfl
   · exact (T.o.chg (Av _ _ (.int .i64 5) (.int .u64 0) (.int .u64 0) (.int .u64 0) (.int .u64 0) (.int .i64 0) (.int .i64 (-1)) (.int .i64 0) (.slice u 1 c1)) (fun b d e=>d.2 e)).mono (fun b _ d=>d.1)
   · exact G.o.trans ((Av _ _ (.int .i64 5) (.int .u64 0) (.int .u64 0) (.int .u64 0) (.int .u64 0) (.int .i64 0) (.int .i64 (-1)) (.int .i64 0) (.slice u 1 c1)).below G.o.size (fun k hk e=>by omega))
  ·go_enter func163,ntmps163
   go_wp2_with (first
    | (go_at_call 201
       (refine (L.o (fun b=>B b/\b≠w.heap.size+1) _ _ _ l.o Q.o (i.o _ p.o)).mono ?_);rintro a7 w1 ⟨⟨v1,rfl,g⟩,j⟩;obtain⟨u,c1,rfl⟩:=g.lies.shape;have T:=qh g;have G:=qh (Ab l.o j);have y:=qh (a5.o.stays j);obtain⟨d0,d1,d2,d3,d4,d5,d6,d7,d8⟩:=y.o.nine;obtain⟨z0,z1,z2,z3,z4,z5,z6,z7,z8⟩:=y.o.free9;simp only[repT,Re.op,Re.lo,Re.hi,Re.group,Re.args,Re.set,e0,e1,e2,e3,List.length_singleton,List.length_cons,List.length_nil];clear g j))
   have J:=(y.o.put9 (.int .i64 5) (.int .u64 0) (.int .u64 0) (.int .u64 0) (.int .u64 0) (.int .i64 1) (.int .i64 (-1)) (.int .i64 0) (.slice u 1 c1)).nine;try unfold put9 at J
   obtain⟨n0,n1,n2,n3,n4,n5,n6,n7,n8⟩:=J;try simp only[Exit.inBlock,Exit.then]
   refine bodyPost_ret (v:=.agg (ZA 5 1 (-1) 0 (.slice u 1 c1))) (by simp[results,results163,go_sem,n0,n1,n2,n3,n4,n5,n6,n7,n8]) rfl ?_;refine⟨⟨.slice u 1 c1,?_,?_⟩,?_⟩
   ·show _=Ending.returned (.agg #[.int .i64 5,.int .u64 (Sets.Aa noP 0:Nat),.int .u64 (Sets.Aa noP 1:Nat),.int .u64 (Sets.Aa noP 2:Nat),.int .u64 (Sets.Aa noP 3:Nat),.int .i64 1,.int .i64 (-1),.int .i64 0,_])
    rw[e0,e1,e2,e3];rfl
   · exact (T.o.chg (Av _ _ (.int .i64 5) (.int .u64 0) (.int .u64 0) (.int .u64 0) (.int .u64 0) (.int .i64 1) (.int .i64 (-1)) (.int .i64 0) (.slice u 1 c1)) (fun b d e=>d.2 e)).mono (fun b _ d=>d.1)
   · exact G.o.trans ((Av _ _ (.int .i64 5) (.int .u64 0) (.int .u64 0) (.int .u64 0) (.int .u64 0) (.int .i64 1) (.int .i64 (-1)) (.int .i64 0) (.slice u 1 c1)).below G.o.size (fun k hk e=>by omega))
 ·have hn:=Lq (by simpa using hs)
  rw[show Dv x lo hi=repeated x lo hi from if_neg hs];clear hs;by_cases h0:hi=0
  ·subst h0
   obtain rfl:lo=0:=by omega
   clear d hn;rw[show repeated x 0 0=Re.mk 1 noP 0 0 0 [] from rfl];go_enter func163,ntmps163;go_wp2;have J:=((by have:=TB.new (w.alloc (.cells (xA x M N) 28)) (ZL 1 0 0 0 (.slice none 0 0));rw[show (w.alloc (.cells (xA x M N) 28)).heap.size=w.heap.size+1 from by simp]at this;exact this:TB ((w.alloc (.cells (xA x M N) 28)).alloc (.cells (ZA 1 0 0 0 (.slice none 0 0)) 28)) (w.heap.size+1) (ZL 1 0 0 0 (.slice none 0 0)))).nine;try unfold put9 at J
   obtain⟨n0,n1,n2,n3,n4,n5,n6,n7,n8⟩:=J;try simp only[Exit.inBlock,Exit.then]
   refine bodyPost_ret (v:=.agg (ZA 1 0 0 0 (.slice none 0 0))) (by simp[results,results163,go_sem,n0,n1,n2,n3,n4,n5,n6,n7,n8]) rfl ?_;refine⟨⟨.slice none 0 0,?_,LiesB.nil _ _⟩,(qb w _).alloc (by simp) _⟩;show _=Ending.returned (.agg #[.int .i64 1,.int .u64 (Sets.Aa noP 0:Nat),.int .u64 (Sets.Aa noP 1:Nat),.int .u64 (Sets.Aa noP 2:Nat),.int .u64 (Sets.Aa noP 3:Nat),.int .i64 0,.int .i64 0,.int .i64 0,_]);rw[e0,e1,e2,e3];rfl
  by_cases g:lo=1/\hi=1
  ·obtain⟨rfl,rfl⟩:=g
   clear d hn h0;rw[show repeated x 1 1=x from rfl];go_enter func163,ntmps163;go_wp2;have J:=((by have:=TB.new (w.alloc (.cells (xA x M N) 28)) (xL x M N);rw[show (w.alloc (.cells (xA x M N) 28)).heap.size=w.heap.size+1 from by simp]at this;exact this:TB ((w.alloc (.cells (xA x M N) 28)).alloc (.cells (xA x M N) 28)) (w.heap.size+1) (xL x M N))).nine;try unfold put9 at J
   obtain⟨n0,n1,n2,n3,n4,n5,n6,n7,n8⟩:=J;try simp only[Exit.inBlock,Exit.then]
   refine bodyPost_ret (v:=.agg (xA x M N)) (by simp[results,results163,go_sem,n0,n1,n2,n3,n4,n5,n6,n7,n8]) rfl ?_;exact⟨⟨_,rfl,HL.o.stays ((qb w _).alloc (by simp) _)⟩,(qb w _).alloc (by simp) _⟩
  by_cases hm:hi= -1
  ·subst hm
   obtain⟨m,rfl⟩:∃m:Nat,lo=(m:Int)+1:=⟨(lo-1).toNat,by omega⟩;have e:repeated x ((m:Int)+1) (-1)=Re.mk 3 noP 0 0 0 (List.replicate m x++ [repT x 1 (-1)]):=by
    unfold repeated;rw[if_neg (by omega),if_neg (by omega),if_pos rfl,show ((m:Int)+1).toNat-1=m by omega]
   rw[e];have hm:1<=m:=by omega
   have a8:m<=63:=by omega
   clear e d hn h0 g;have b0:((m:Int)+1==0)=false:=beq_eq_false_iff_ne.2 (by omega);have b1:((m:Int)+1==1)=false:=beq_eq_false_iff_ne.2 (by omega);have b2:(-1==(m:Int)+1)=false:=beq_eq_false_iff_ne.2 (by omega);have b3:¬(m:Int)+1=0:=by omega
   have b4:¬(m:Int)=0:=by omega
   have b5:¬ -1=(m:Int)+1:=by omega
   have b6:(m:Int)<=63:=by omega
   have b7:IntKind.i64.wrap (m:Int)=(m:Int):=IntWalk.i64_in _ (by omega);have HM:=qh (show m<=4096 by omega);have a9:=HM;clear hm a8;go_enter func163,ntmps163;go_wp2_with fail
   generalize ((w.alloc (.cells (xA x M N) 28)).alloc (.cells (ZA0) 28))=wq at*;obtain⟨x0,x1,x2,x3,x4,x5,x6,x7,x8⟩:=f2.o.nine;have P:=qh (fun W (K:qw wq W)=>And.intro (upc K x0) (And.intro (upc K x1) (And.intro (upc K x2) (And.intro (upc K x3) (And.intro (upc K x4) (And.intro (upc K x5) (And.intro (upc K x6) (And.intro (upc K x7) (upc K x8)))))))));clear x0 x1 x2 x3 x4 x5 x6 x7 x8;refine HeldTail.enter (S:=fun w'=>xS w' w.heap.size x M N) 7 (by kernel_rfl) (by kernel_rfl) (P.o _ ((Below.refl _ wq).drew)) (fun z=>?_);refine HeldTail.HG.take 0 (v:=?_) rfl (by kernel_rfl) (by rfl) (by kernel_rfl) (by kernel_rfl) (fun _ _ _ h=>h) (Or.inl ⟨by rfl,?_⟩) (by assumption) ?_;rotate_left
   ·intro w t
    try dsimp only at t
    go_simp;try with_reducible rfl
   try simp only[Act.put,yT,y9,yS]
   refine HeldTail.HG.take 1 (v:=?_) rfl (by kernel_rfl) (by rfl) (by kernel_rfl) (by kernel_rfl) (fun _ _ _ h=>h) (Or.inl ⟨by rfl,?_⟩) (by assumption) ?_;rotate_left
   ·intro w t
    try dsimp only at t
    go_simp;try with_reducible rfl
   try simp only[Act.put,yT,y9,yS]
   refine HeldTail.HG.take 2 (v:=?_) rfl (by kernel_rfl) (by rfl) (by kernel_rfl) (by kernel_rfl) (fun _ _ _ h=>h) (Or.inl ⟨by rfl,?_⟩) (by assumption) ?_;rotate_left
   ·intro w t
    try dsimp only at t
    go_simp;try with_reducible rfl
   try simp only[Act.put,yT,y9,yS]
   refine HeldTail.HG.take 4 (v:=?_) rfl (by kernel_rfl) (by rfl) (by kernel_rfl) (by kernel_rfl) (fun _ _ _ h=>h) (Or.inl ⟨by rfl,?_⟩) (by assumption) ?_;rotate_left
   ·intro w t
    try dsimp only at t
    go_simp;try with_reducible rfl
   try simp only[Act.put,yT,y9,yS]
   refine HeldTail.HG.go 3 rfl (by rfl) (by kernel_rfl) ?_;intro K3 g1;go_simp;refine (a0.o (fun b=>B b/\b≠w.heap.size+1) _ m l.o.drew Q.o (i.o _ p.o) HM.o).mono ?_;rintro a7 w1 ⟨⟨v1,rfl,g⟩,j⟩;obtain⟨u,c1,rfl⟩:∃a c,v1=.slice a m c:=by have:=g.form;rwa [List.length_replicate]at this
   have e5:=qh g;have C:Hid (qw wq w1):=Ab ((Below.refl _ wq).drew) j;have A:Hid (∀k,some k=(Value.slice u m c1).ownBlock->wq.heap.size<=k/\k<w1.heap.size):=fun k hk=>g.lt k hk.symm;clear g j;refine g1.out _ _ (P.o _ C.o) (fun z=>?_);try simp only[Act.put,yT,y9,yS]
   refine HeldTail.HG.go 5 rfl (by rfl) (by kernel_rfl) ?_;intro K5 g3;go_simp;refine (L.o (fun b=>(B b/\b≠w.heap.size+1)/\some b≠(Value.slice u m c1).ownBlock) _ 1 (-1) (l.o.trans (C.o.mono l.o.size)) (fun b d h=>⟨Q.o b d h,fun e=>by have g:=(A.o b e).1;have E:=p.o;omega⟩) (fun b d=>⟨i.o _ (Nat.le_trans p.o C.o.size) b d,fun e=>by have g:=(A.o b e).2;omega⟩)).mono ?_;rintro f9 w2 ⟨⟨v2,rfl,E⟩,X⟩;obtain⟨a2,c2,rfl⟩:∃a c,v2=.slice a 1 c:=E.lies.shape;have c9:=qh E;have O:=qh (C.o.trans (X.mono C.o.size));have U:=qh X;simp only[repT,Re.op,Re.lo,Re.hi,Re.group,Re.args,Re.set,e0,e1,e2,e3,List.length_singleton,List.length_cons,List.length_nil];clear E X;refine g3.out _ _ (P.o _ O.o) (fun z=>?_);try simp only[Act.put,yT,y9,yS]
   refine HeldTail.HG.go 6 rfl (by rfl) (by kernel_rfl) ?_;intro K6 g4;go_simp;have f0:=qh (qb w2 (.cells (ZA 5 1 (-1) 0 (.slice a2 1 c2)) 28));have I:=qh (O.o.trans (f0.o.mono O.o.size));have e7:=qh (Ab U.o f0.o);have e6:=qh (I.o.size);have e4:Hid (LiesB (fun b=>(B b/\b≠w.heap.size+1)/\some b≠(Value.slice u m c1).ownBlock) (w2.alloc (.cells (ZA 5 1 (-1) 0 (.slice a2 1 c2)) 28)) (.slice (some ⟨w2.heap.size,0,none⟩) 1 1) [repT x 1 (-1)]):=by
    have h:=LiesB.of_one (B:=(fun b=>(B b/\b≠w.heap.size+1)/\some b≠(Value.slice u m c1).ownBlock)) (w:=w2) (repT x 1 (-1)) (.slice a2 1 c2) 28 ⟨i.o _ (Nat.le_trans p.o C.o.size) _ U.o.size,fun e=>by have g:=(A.o _ e).2;have E:=U.o.size;omega⟩ (Gc x ⟨by decide,by decide⟩ ⟨by decide,by decide⟩) c9.o;have e:(Bi (.slice a2 1 c2) (repT x 1 (-1))).toArray=(ZA 5 1 (-1) 0 (.slice a2 1 c2)):=by
     simp only[Bi,repT,Re.op,Re.lo,Re.hi,Re.group,Re.set,e0,e1,e2,e3];rfl
    rw[e]at h;exact h
   refine g4.out _ _ (P.o _ I.o) (fun z=>?_);try simp only[Act.put,yT,y9,yS]
   refine HeldTail.HG.done (by kernel_rfl) ?_;simp only[List.drop_succ_cons,List.drop_zero];go_wp2_with (first
    | (at_builtin
       refine Bb _ rfl _ _ rfl wq.heap.size (.slice u m c1) (List.replicate m x) (by rfl) (e5.o.stays e7.o) (.slice (some ⟨w2.heap.size,0,none⟩) 1 1) [repT x 1 (-1)] (by rfl) e4.o (by have:=HM.o;have:=a9.o;simp;omega) e6.o ?_;intro v4 w4 h4 Y e9;obtain⟨a4,c4,rfl⟩:∃a c,v4=.slice a (m+1) c:=by have:=h4.form;simpa using this
       have d9:=qh (h4.lies (fun b d=>i.o wq p.o b d));have a6:=qh ((l.o.trans (I.o.mono l.o.size)).trans (Y.below (Nat.le_trans l.o.size I.o.size) (fun k hk e=>by have g:=(A.o k e).1;have E:=p.o;omega)));have V:=qh ((a5.o.stays I.o).chg Y (fun e=>by have g:=(A.o _ e).1;have E:=p.o;omega));obtain⟨d0,d1,d2,d3,d4,d5,d6,d7,d8⟩:=V.o.nine;obtain⟨z0,z1,z2,z3,z4,z5,z6,z7,z8⟩:=V.o.free9;clear h4 Y e9))
   have J:=(V.o.put9 (.int .i64 3) (.int .u64 0) (.int .u64 0) (.int .u64 0) (.int .u64 0) (.int .i64 0) (.int .i64 0) (.int .i64 0) (.slice a4 (m+1) c4)).nine;try unfold put9 at J
   obtain⟨n0,n1,n2,n3,n4,n5,n6,n7,n8⟩:=J;try simp only[Exit.inBlock,Exit.then]
   refine bodyPost_ret (v:=.agg (ZA 3 0 0 0 (.slice a4 (m+1) c4))) (by simp[results,results163,go_sem,n0,n1,n2,n3,n4,n5,n6,n7,n8]) rfl ?_;refine⟨⟨.slice a4 (m+1) c4,?_,?_⟩,?_⟩
   ·show _=Ending.returned (.agg #[.int .i64 3,.int .u64 (Sets.Aa noP 0:Nat),.int .u64 (Sets.Aa noP 1:Nat),.int .u64 (Sets.Aa noP 2:Nat),.int .u64 (Sets.Aa noP 3:Nat),.int .i64 0,.int .i64 0,.int .i64 0,_])
    rw[e0,e1,e2,e3];rfl
   · exact (d9.o.chg (Av _ _ (.int .i64 3) (.int .u64 0) (.int .u64 0) (.int .u64 0) (.int .u64 0) (.int .i64 0) (.int .i64 0) (.int .i64 0) (.slice a4 (m+1) c4)) (fun b d e=>d.2 e)).mono (fun b _ d=>d.1)
   · exact a6.o.trans ((Av _ _ (.int .i64 3) (.int .u64 0) (.int .u64 0) (.int .u64 0) (.int .u64 0) (.int .i64 0) (.int .i64 0) (.int .i64 0) (.slice a4 (m+1) c4)).below a6.o.size (fun k hk e=>by omega))
  ·obtain⟨m,rfl⟩:∃m:Nat,lo=(m:Int):=⟨lo.toNat,by omega⟩
   obtain⟨h,rfl⟩:∃h:Nat,hi=(h:Int):=⟨hi.toNat,by omega⟩;have e:repeated x (m:Int) (h:Int)=Re.mk 3 noP 0 0 0 (List.replicate m x++List.replicate (h-m) (repT x 0 1)):=by
    unfold repeated;rw[if_neg h0,if_neg g,if_neg hm,show (m:Int).toNat=m by omega,show ((h:Int)-(m:Int)).toNat=h-m by omega]
   rw[e];by_cases he:h=m
   ·subst he
    rw[Nat.sub_self,List.replicate_zero,List.append_nil];have hm:2<=h:=by omega
    have a8:h<=64:=by omega
    clear e d hn h0 g;have b0:((h:Int)==0)=false:=beq_eq_false_iff_ne.2 (by omega);have b1:((h:Int)==1)=false:=beq_eq_false_iff_ne.2 (by omega);have b2:((h:Int)== -1)=false:=beq_eq_false_iff_ne.2 (by omega);have b3:¬(h:Int)=0:=by omega
    have b4:¬(h:Int)=1:=by omega
    have b5:¬(h:Int)= -1:=by omega
    have b6:(h:Int)<=64:=by omega
    have HM:=qh (show h<=4096 by omega);clear hm a8;go_enter func163,ntmps163;go_wp2_with (first
     | ( go_at_call 202
         (refine (a0.o (fun b=>B b/\b≠w.heap.size+1) _ h l.o Q.o (i.o _ p.o) HM.o).mono ?_);rintro a7 w1 ⟨⟨v1,rfl,g⟩,j⟩;obtain⟨u,c1,rfl⟩:∃a c,v1=.slice a h c:=by have:=g.form;rwa [List.length_replicate]at this
         have T:=qh (g.lies (i.o _ p.o));have G:=qh (Ab l.o j);have y:=qh (a5.o.stays j);obtain⟨d0,d1,d2,d3,d4,d5,d6,d7,d8⟩:=y.o.nine;obtain⟨z0,z1,z2,z3,z4,z5,z6,z7,z8⟩:=y.o.free9;clear g j))
    have J:=(y.o.put9 (.int .i64 3) (.int .u64 0) (.int .u64 0) (.int .u64 0) (.int .u64 0) (.int .i64 0) (.int .i64 0) (.int .i64 0) (.slice u h c1)).nine;try unfold put9 at J
    obtain⟨n0,n1,n2,n3,n4,n5,n6,n7,n8⟩:=J;try simp only[Exit.inBlock,Exit.then]
    refine bodyPost_ret (v:=.agg (ZA 3 0 0 0 (.slice u h c1))) (by simp[results,results163,go_sem,n0,n1,n2,n3,n4,n5,n6,n7,n8]) rfl ?_;refine⟨⟨.slice u h c1,?_,?_⟩,?_⟩
    ·show _=Ending.returned (.agg #[.int .i64 3,.int .u64 (Sets.Aa noP 0:Nat),.int .u64 (Sets.Aa noP 1:Nat),.int .u64 (Sets.Aa noP 2:Nat),.int .u64 (Sets.Aa noP 3:Nat),.int .i64 0,.int .i64 0,.int .i64 0,_])
     rw[e0,e1,e2,e3];rfl
    · exact (T.o.chg (Av _ _ (.int .i64 3) (.int .u64 0) (.int .u64 0) (.int .u64 0) (.int .u64 0) (.int .i64 0) (.int .i64 0) (.int .i64 0) (.slice u h c1)) (fun b d e=>d.2 e)).mono (fun b _ d=>d.1)
    · exact G.o.trans ((Av _ _ (.int .i64 3) (.int .u64 0) (.int .u64 0) (.int .u64 0) (.int .u64 0) (.int .i64 0) (.int .i64 0) (.int .i64 0) (.slice u h c1)).below G.o.size (fun k hk e=>by omega))
   ·have hr:m<h/\h<=64/\2<=h:=by omega
    obtain⟨hm,a8,E⟩:=hr;clear e d hn h0 g;have hz:(((m:Int)==0)=true/\((m:Int)==1)=false/\((m:Int)=0)=True/\((m:Int)=1)=False)\/(((m:Int)==0)=false/\((m:Int)==1)=true/\((m:Int)=0)=False/\((m:Int)=1)=True)\/(((m:Int)==0)=false/\((m:Int)==1)=false/\((m:Int)=0)=False/\((m:Int)=1)=False):=by
     rcases (by omega:m=0\/m=1\/2<=m) with rfl | rfl | h9
     · exact .inl (by decide)
     · exact .inr (.inl (by decide))
     · exact .inr (.inr ⟨beq_eq_false_iff_ne.2 (by omega),beq_eq_false_iff_ne.2 (by omega),eq_false (by omega),eq_false (by omega)⟩)
    rcases hz with ⟨f3,f4,f5,f6⟩ | ⟨f3,f4,f5,f6⟩ | ⟨f3,f4,f5,f6⟩;all_goals
     have b0:((h:Int)==0)=false:=beq_eq_false_iff_ne.2 (by omega);have b1:((h:Int)==1)=false:=beq_eq_false_iff_ne.2 (by omega);have b2:((h:Int)== -1)=false:=beq_eq_false_iff_ne.2 (by omega);have b3:((h:Int)==(m:Int))=false:=beq_eq_false_iff_ne.2 (by omega);have b4:¬(h:Int)=0:=by omega
     have b5:¬(h:Int)=1:=by omega
     have b6:¬(h:Int)= -1:=by omega
     have b7:¬(h:Int)=(m:Int):=by omega
     have b8:¬h=m:=by omega
     have b9:(h:Int)<=64:=by omega
     have g8:(h==m)=false:=beq_eq_false_iff_ne.2 (by omega);have c3:(m:Int)<=64:=by omega
     obtain⟨q,hq⟩:∃q,h-m=q:=⟨_,rfl⟩;have f7:=qh hq;have c1:(h:Int)-(m:Int)=(q:Int):=by omega
     have c2:IntKind.i64.wrap (q:Int)=(q:Int):=IntWalk.i64_in _ (by omega);have HM:=qh (show m<=4096 by omega);have a9:=qh (show q<=4096 by omega);rw[f7.o];clear hm a8 hq E;go_enter func163,ntmps163;go_wp2_with fail
     generalize ((w.alloc (.cells (xA x M N) 28)).alloc (.cells (ZA0) 28))=wq at*;obtain⟨x0,x1,x2,x3,x4,x5,x6,x7,x8⟩:=f2.o.nine;have P:=qh (fun W (K:qw wq W)=>And.intro (upc K x0) (And.intro (upc K x1) (And.intro (upc K x2) (And.intro (upc K x3) (And.intro (upc K x4) (And.intro (upc K x5) (And.intro (upc K x6) (And.intro (upc K x7) (upc K x8)))))))));clear x0 x1 x2 x3 x4 x5 x6 x7 x8;refine HeldTail.enter (S:=fun w'=>xS w' w.heap.size x M N) 9 (by kernel_rfl) (by kernel_rfl) (P.o _ ((Below.refl _ wq).drew)) (fun z=>?_);refine HeldTail.HG.take 0 (v:=?_) rfl (by kernel_rfl) (by rfl) (by kernel_rfl) (by kernel_rfl) (fun _ _ _ h=>h) (Or.inl ⟨by rfl,?_⟩) (by assumption) ?_;rotate_left
     ·  intro w t
        try dsimp only at t
        go_simp;try with_reducible rfl
     try simp only[Act.put,yT,y9,yS]
     refine HeldTail.HG.take 1 (v:=?_) rfl (by kernel_rfl) (by rfl) (by kernel_rfl) (by kernel_rfl) (fun _ _ _ h=>h) (Or.inl ⟨by rfl,?_⟩) (by assumption) ?_;rotate_left
     ·  intro w t
        try dsimp only at t
        go_simp;try with_reducible rfl
     try simp only[Act.put,yT,y9,yS]
     refine HeldTail.HG.take 3 (v:=?_) rfl (by kernel_rfl) (by rfl) (by kernel_rfl) (by kernel_rfl) (fun _ _ _ h=>h) (Or.inl ⟨by rfl,?_⟩) (by assumption) ?_;rotate_left
     ·  intro w t
        try dsimp only at t
        go_simp;try with_reducible rfl
     try simp only[Act.put,yT,y9,yS]
     refine HeldTail.HG.take 5 (v:=?_) rfl (by kernel_rfl) (by rfl) (by kernel_rfl) (by kernel_rfl) (fun _ _ _ h=>h) (Or.inl ⟨by rfl,?_⟩) (by assumption) ?_;rotate_left
     ·  intro w t
        try dsimp only at t
        go_simp;try with_reducible rfl
     try simp only[Act.put,yT,y9,yS]
     refine HeldTail.HG.take 6 (v:=?_) rfl (by kernel_rfl) (by rfl) (by kernel_rfl) (by kernel_rfl) (fun _ _ _ h=>h) (Or.inl ⟨by rfl,?_⟩) (by assumption) ?_;rotate_left
     ·  intro w t
        try dsimp only at t
        go_simp;try with_reducible rfl
     try simp only[Act.put,yT,y9,yS]
     refine HeldTail.HG.take 7 (v:=?_) rfl (by kernel_rfl) (by rfl) (by kernel_rfl) (by kernel_rfl) (fun _ _ _ h=>h) (Or.inl ⟨by rfl,?_⟩) (by assumption) ?_;rotate_left
     ·  intro w t
        try dsimp only at t
        go_simp;try with_reducible rfl
     try simp only[Act.put,yT,y9,yS]
     refine HeldTail.HG.go 2 rfl (by rfl) (by kernel_rfl) ?_;intro K2 g0;go_simp;refine (a0.o (fun b=>B b/\b≠w.heap.size+1) _ m l.o.drew Q.o (i.o _ p.o) HM.o).mono ?_;rintro a7 w1 ⟨⟨v1,rfl,g⟩,j⟩;obtain⟨u,c1,rfl⟩:∃a c,v1=.slice a m c:=by have:=g.form;rwa [List.length_replicate]at this
     have e5:=qh g;have C:Hid (qw wq w1):=Ab ((Below.refl _ wq).drew) j;have A:Hid (∀k,some k=(Value.slice u m c1).ownBlock->wq.heap.size<=k/\k<w1.heap.size):=fun k hk=>g.lt k hk.symm;clear g j;refine g0.out _ _ (P.o _ C.o) (fun z=>?_);try simp only[Act.put,yT,y9,yS]
     refine HeldTail.HG.go 4 rfl (by rfl) (by kernel_rfl) ?_;intro K4 g2;go_simp;refine (L.o (fun b=>(B b/\b≠w.heap.size+1)/\some b≠(Value.slice u m c1).ownBlock) _ 0 1 (l.o.trans (C.o.mono l.o.size)) (fun b d h=>⟨Q.o b d h,fun e=>by have g:=(A.o b e).1;have E:=p.o;omega⟩) (fun b d=>⟨i.o _ (Nat.le_trans p.o C.o.size) b d,fun e=>by have g:=(A.o b e).2;omega⟩)).mono ?_;rintro f9 w2 ⟨⟨v2,rfl,E⟩,X⟩;obtain⟨a2,c2,rfl⟩:∃a c,v2=.slice a 1 c:=E.lies.shape;have c9:=qh E;have O:=qh (C.o.trans (X.mono C.o.size));have U:=qh X;simp only[repT,Re.op,Re.lo,Re.hi,Re.group,Re.args,Re.set,e0,e1,e2,e3,List.length_singleton,List.length_cons,List.length_nil];clear E X;refine g2.out _ _ (P.o _ O.o) (fun z=>?_);try simp only[Act.put,yT,y9,yS]
     refine HeldTail.HG.go 8 rfl (by rfl) (by kernel_rfl) ?_;intro K8 g5;go_simp;refine (R.o (fun b=>(B b/\b≠w.heap.size+1)/\some b≠(Value.slice u m c1).ownBlock) w2 q 0 1 _ _ a9.o (fun b d=>⟨i.o _ (Nat.le_trans p.o O.o.size) b d,fun e=>by have g:=(A.o b e).2;have E:=U.o.size;omega⟩) c9.o (Gc x ⟨by decide,by decide⟩ ⟨by decide,by decide⟩)).mono ?_;rintro g9 w3 ⟨⟨v3,rfl,h3⟩,e8⟩;obtain⟨a3,f8,rfl⟩:∃a c,v3=.slice a q c:=by have:=h3.form;rwa [List.length_replicate]at this
     have e4:=qh (h3.lies (fun b d=>⟨i.o _ (Nat.le_trans p.o O.o.size) b d,fun e=>by have g:=(A.o b e).2;have E:=U.o.size;omega⟩));have I:=qh (O.o.trans (e8.mono O.o.size));have e7:=qh (Ab U.o e8);have e6:=qh (I.o.size);clear h3 e8;refine g5.out _ _ (P.o _ I.o) (fun z=>?_);try simp only[Act.put,yT,y9,yS]
     refine HeldTail.HG.done (by kernel_rfl) ?_;simp only[List.drop_succ_cons,List.drop_zero];go_wp2_with (first
        | (at_builtin
           refine Bb _ rfl _ _ rfl wq.heap.size (.slice u m c1) (List.replicate m x) (by rfl) (e5.o.stays e7.o) (.slice a3 q f8) (List.replicate q (repT x 0 1)) (by rfl) e4.o (by have:=HM.o;have:=a9.o;simp;omega) e6.o ?_;intro v4 w4 h4 Y e9;obtain⟨a4,c4,rfl⟩:∃a c,v4=.slice a (m+q) c:=by have:=h4.form;simpa using this
           have d9:=qh (h4.lies (fun b d=>i.o wq p.o b d));have a6:=qh ((l.o.trans (I.o.mono l.o.size)).trans (Y.below (Nat.le_trans l.o.size I.o.size) (fun k hk e=>by have g:=(A.o k e).1;have E:=p.o;omega)));have V:=qh ((a5.o.stays I.o).chg Y (fun e=>by have g:=(A.o _ e).1;have E:=p.o;omega));obtain⟨d0,d1,d2,d3,d4,d5,d6,d7,d8⟩:=V.o.nine;obtain⟨z0,z1,z2,z3,z4,z5,z6,z7,z8⟩:=V.o.free9;clear h4 Y e9))
     have J:=(V.o.put9 (.int .i64 3) (.int .u64 0) (.int .u64 0) (.int .u64 0) (.int .u64 0) (.int .i64 0) (.int .i64 0) (.int .i64 0) (.slice a4 (m+q) c4)).nine;try unfold put9 at J
     obtain⟨n0,n1,n2,n3,n4,n5,n6,n7,n8⟩:=J;try simp only[Exit.inBlock,Exit.then]
     refine bodyPost_ret (v:=.agg (ZA 3 0 0 0 (.slice a4 (m+q) c4))) (by simp[results,results163,go_sem,n0,n1,n2,n3,n4,n5,n6,n7,n8]) rfl ?_;refine⟨⟨.slice a4 (m+q) c4,?_,?_⟩,?_⟩
     ·  show _=Ending.returned (.agg #[.int .i64 3,.int .u64 (Sets.Aa noP 0:Nat),.int .u64 (Sets.Aa noP 1:Nat),.int .u64 (Sets.Aa noP 2:Nat),.int .u64 (Sets.Aa noP 3:Nat),.int .i64 0,.int .i64 0,.int .i64 0,_])
        rw[e0,e1,e2,e3];rfl
     · exact (d9.o.chg (Av _ _ (.int .i64 3) (.int .u64 0) (.int .u64 0) (.int .u64 0) (.int .u64 0) (.int .i64 0) (.int .i64 0) (.int .i64 0) (.slice a4 (m+q) c4)) (fun b d e=>d.2 e)).mono (fun b _ d=>d.1)
     · exact a6.o.trans ((Av _ _ (.int .i64 3) (.int .u64 0) (.int .u64 0) (.int .u64 0) (.int .u64 0) (.int .i64 0) (.int .i64 0) (.int .i64 0) (.slice a4 (m+q) c4)).below a6.o.size (fun k hk e=>by omega))
end ReMem
namespace ReMem
open Go Go.RowKit MatchMath
theorem Bc:∀(l:List Re),l.length<=sizes l
 | []=>by simp
 |x::r=>by
  have h1:=Bc r;have a:=size_pos x;rw[sizes,List.length_cons];omega
theorem Le {o l h g:Int} {s:Nat->Bool} {a:List Re} (e:W64 o) (d:W64 l) (c:W64 h) (b:W64 g):Ag (.mk o s l h g a):=⟨e,d,c,b⟩
theorem W64.lit {z:Int} (h: -1000<=z/\z<=1000):W64 z:=by unfold W64;omega
theorem Pz {x:Re} {l h:Int} (b:Ag x) (a:counted l h=true):Ag (Dv x l h):=by
 have c:=Dw a;unfold Dv;split
 · exact Gc x (W64.lit (by omega)) (W64.lit (by omega))
 ·unfold repeated
  split
  · exact Le (W64.lit (by omega)) (W64.lit (by omega)) (W64.lit (by omega)) (W64.lit (by omega))
  split
  · exact b
  split
  · exact Le (W64.lit (by omega)) (W64.lit (by omega)) (W64.lit (by omega)) (W64.lit (by omega))
  · exact Le (W64.lit (by omega)) (W64.lit (by omega)) (W64.lit (by omega)) (W64.lit (by omega))
theorem LiesB.at0 {B:Nat->Prop} {w:World} {v:Value} {t:Re} (h:LiesB B w v [t]):∃tv b off c,v=.slice (some ⟨b,off,none⟩) 1 c/\1<=c/\c<=maxLen/\(∀i u,(Bi tv t)[i]? =some u->w.cell? ⟨b,off+i,none⟩=some u)/\LiesB B w tv t.args/\Ag t:=by
 cases h with
 |mk a c ts vs hl hc hf hcell hsub=>
  obtain⟨b,off,g,rfl,e⟩:=hcell (by simp);obtain⟨tv,rfl⟩:=List.length_eq_one_iff.1 hl;refine⟨tv,b,off,c,rfl,hc.1,hc.2,fun i u d=>?_,hsub 0 t tv rfl rfl,hf t (by simp)⟩;have:=e 0 t tv rfl rfl i u d;simpa using this
theorem TRow.set2 {base:Nat} {w:World} {v:Value} {l:List Re} (h:TRow (fun b=>base<=b) w base v l) {g k:Nat} {u:Value} (r:g<base):TRow (fun b=>base<=b) (w.setCell ⟨g,k,none⟩ u) base v l:=by
 obtain⟨q,o,hr,m,p⟩:=h;have a:=Chg.setCell w g k u;exact⟨q,o,Row.chg hr a (fun k n e=>by have:=(hr.lt k n).1;omega),m,fun j t u c d=>(p j t u c d).chg a (fun b i e=>by have:=i.1;omega)⟩
theorem Gs (args:List Re) (j:Nat) (t:Re) (h:args[j]? =some t):Aw (args.take (j+1))=Aw (args.take j)++ [Ae t]:=by
 rw[Lc,Lc,List.take_add_one,h];simp
end ReMem
end Go.Proofs.YtjefcpjciogcjaaGreatDoor
