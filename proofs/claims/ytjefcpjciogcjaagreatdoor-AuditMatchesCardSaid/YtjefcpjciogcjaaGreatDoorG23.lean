/- Lemmas for the walk of the law, in 2 parts. No condition beyond what each states. -/
import Derived.Test.YtjefcpjciogcjaaGreatDoorG21
import Derived.Test.YtjefcpjciogcjaaGreatDoorG22
namespace Go.Proofs.YtjefcpjciogcjaaGreatDoor
set_option maxRecDepth 100000
set_option linter.unusedVariables false
set_option maxHeartbeats 16000000
open List renaming setIfInBounds_toArray->yT,set_cons_zero->y9,set_cons_succ->yS
open Tryz
namespace ReMem
open Go Go.RowKit MatchMath
def PExp (k n:Nat):Prop:=∀(e:Re) (v:Value) (w:World),size e<n->gok k e=true->Ag e->Lies w v e.args->Calls Tryz.prog 122 #[Ac v e] w fun r w'=>(∃v',r=.returned (Ac v' (Ae e))/\LiesB (fun b=>w.heap.size<=b) w' v' (Ae e).args/\Ag (Ae e))/\qw w w'
theorem Yb (k n:Nat) (hp:PExp k n) (o:Int) (s:Nat->Bool) (l h g:Int) (args:List Re) (v:Value) (w:World) (h5:o≠5) (b9:sizes args<n) (hn:n<=8192) (b7:gokL k args=true) (hl:Lies w v args):
  Calls Tryz.prog 122 #[Ac v (.mk o s l h g args)] w fun r w'=>(∃v',r=.returned (Ac v' (Re.mk o s l h g (Aw args)))/\LiesB (fun b=>w.heap.size<=b) w' v' (Aw args))/\qw w w':=by
 obtain⟨va,vc,vs,rfl,⟨b8,b4⟩,ho⟩:=hl.opened;have g0:args.length<=9223372036854775807:=Nat.le_trans b8 b4;have HP:=qh (fun t v w (ht:t∈args)=>hp t v w (Nat.lt_of_le_of_lt (Hl ht) b9) (Bk b7 ht));have a2:=qh (show args.length<=8192 from by have:=Bc args;omega);have f6:(args.length:Int)<=8192:=by have:=a2.o;omega
 have HO:=qh ho;have f7:=qh hl;unfold Ac;simp only[Re.op,Re.set,Re.lo,Re.hi,Re.group,Re.args];clear hl ho hp b7 b9 b8 b4 hn;obtain⟨d9,e8,e7,e6,f8⟩:=TB.three w (WL o s l h g (.slice va args.length vc)) ZL0 (WL o s l h g (.slice none 0 0));have b0:(o==5)=false:=beq_eq_false_iff_ne.2 h5;have b1:¬o=5:=h5;clear h5;go_enter func122,ntmps122;go_wp2
 go_loopw [20] (fun ix wr=>∃(j:Nat) (ov:Value),j<=args.length/\ix=.int .i64 j/\TB wr (w.heap.size+1+1) (WL o s l h g ov)/\TRow (fun b=>w.heap.size+3<=b) wr (w.heap.size+3) ov (Aw (args.take j))/\qw w wr/\TB wr (w.heap.size+1) (ZL0)/\TB wr w.heap.size (WL o s l h g (.slice va args.length vc))) (fun ix _=>args.length-(intOf ix).toNat)
 case atStart=>exact⟨0,_,Nat.zero_le _,rfl,e8.o,TRow.nil _ _ _,d9.o,e7.o,e6.o⟩
 case round=>
  obtain⟨j,ov,hj,rfl,y,q,D,c9,M⟩:=hrel;obtain⟨N,p⟩:∃x,Aw (args.take j)=x:=⟨_,rfl⟩;have Q:=qh p;rw[p]at q;have T:Hid (N.length=j):=by show _=_;rw[<- p,Gb,List.length_take];omega
  have HR:=qh q;have HB:=qh D;have b2:=qh y;have m:=qh c9;have a6:=qh M;obtain⟨I,J,rfl⟩:∃a c,ov=.slice a j c:=by have:=q.form;rwa [T.o]at this
  obtain⟨y0,y1,y2,y3,y4,y5,y6,y7,y8⟩:=y.nine;have z8:=y.free 8;clear q p c9;by_cases hjt:j<args.length
  ·have f3:(j:Int)< (args.length:Int):=by omega
   have HJ:=qh hjt;obtain⟨t,tv,b,off,ht,hv,e1,⟨x0,x1,x2,x3,x4,x5,x6,x7,x8⟩,Y,b6,hm⟩:=(HO.o.stays D).at hjt;subst e1;have e9:Hid (Aw (args.take (j+1))=N++ [Ae t]):=by show _=_;rw[Gs args j t ht,Q.o]
   have f5:w.heap.size+3<=wr.heap.size:=by have:=y.lt;omega
   have X:=qh f5;have A:=qh (fun W (u:qw wr W)=>HP.o t tv W hm b6 (Y.stays u));obtain⟨O,P,rfl⟩:=Y.shape;unfold Ac at A;have d:=qh (qb wr (.cells (xA t O P) 28));have f0:=qh (TB.new wr (xL t O P));clear ht hv Y b6 hm hjt hj D y M
   go_upto_region 8 with fail
   generalize wr.alloc (.cells (xA t O P) 28)=wq at*;obtain⟨k0,k1,k2,k3,k4,k5,k6,k7,k8⟩:=f0.o.nine;have s8:=upc d.o y8;have a9:=qh (b2.o.stays d.o);have e5:=qh (fun W (u:qw wq W)=>A.o W (Ab d.o u));have V:=qh (fun W (u:qw wq W)=>(And.intro (upc u s8) (And.intro (upc u k0) (And.intro (upc u k1) (And.intro (upc u k2) (And.intro (upc u k3) (And.intro (upc u k4) (And.intro (upc u k5) (And.intro (upc u k6) (And.intro (upc u k7) (upc u k8)))))))))));clear k0 k1 k2 k3 k4 k5 k6 k7 k8 A x0 x1 x2 x3 x4 x5 x6 x7 x8 y0 y1 y2 y3 y4 y5 y6 y7 y8 s8 z8;refine HeldTail.enter (S:=fun w'=>w'.cell? ⟨w.heap.size+1+1,8,none⟩=some (.slice I j J)/\xS w' wr.heap.size t O P) 5 (by kernel_rfl) (by kernel_rfl) (V.o _ ((Below.refl _ wq).drew)) (fun B=>?_);refine HeldTail.HG.take 0 (v:=?_) rfl (by kernel_rfl) (by rfl) (by kernel_rfl) (by kernel_rfl) (fun _ _ _ h=>h) (Or.inl ⟨by rfl,?_⟩) (by assumption) ?_;rotate_left
   ·intro w C
    try dsimp only at C
    go_simp;try with_reducible rfl
   try simp only[Act.put,yT,y9,yS]
   refine HeldTail.HG.take 1 (v:=?_) rfl (by kernel_rfl) (by rfl) (by kernel_rfl) (by kernel_rfl) (fun _ _ _ h=>h) (Or.inl ⟨by rfl,?_⟩) (by assumption) ?_;rotate_left
   ·intro w C
    try dsimp only at C
    go_simp;try with_reducible rfl
   try simp only[Act.put,yT,y9,yS]
   refine HeldTail.HG.take 2 (v:=?_) rfl (by kernel_rfl) (by rfl) (by kernel_rfl) (by kernel_rfl) (fun _ _ _ h=>h) (Or.inl ⟨by rfl,?_⟩) (by assumption) ?_;rotate_left
   ·intro w C
    try dsimp only at C
    go_simp;try with_reducible rfl
   try simp only[Act.put,yT,y9,yS]
   refine HeldTail.HG.go 3 rfl (by rfl) (by kernel_rfl) ?_;intro K3 f1;go_simp;refine (e5.o _ (Below.refl _ wq).drew).mono ?_;rintro f9 w1 ⟨⟨v1,rfl,G,b5⟩,b3⟩;have L:Hid (qw wq w1):=Ab ((Below.refl _ wq).drew) b3;have e0:=qh G;have e2:=qh b5;obtain⟨a1,c1,rfl⟩:=G.lies.shape;clear G b3 b5;refine f1.out _ _ (V.o _ L.o) (fun B=>?_);try simp only[Act.put,yT,y9,yS]
   refine HeldTail.HG.go 4 rfl (by rfl) (by kernel_rfl) ?_;intro K4 f2;go_simp;have a3:=qh (qb w1 (.cells #[.int .i64 (Ae t).op,.int .u64 (Sets.Aa (Ae t).set 0:Nat),.int .u64 (Sets.Aa (Ae t).set 1:Nat),.int .u64 (Sets.Aa (Ae t).set 2:Nat),.int .u64 (Sets.Aa (Ae t).set 3:Nat),.int .i64 (Ae t).lo,.int .i64 (Ae t).hi,.int .i64 (Ae t).group,.slice a1 (Ae t).args.length c1] 28));have i:=qh (L.o.trans (a3.o.mono L.o.size));have z:Hid (∀k,some k=(Value.slice I j J).ownBlock->w.heap.size+3<=k/\k<wr.heap.size):=fun k hk=>HR.o.lt k hk.symm;have e3:Hid (LiesB (fun b=>w.heap.size+3<=b/\some b≠(Value.slice I j J).ownBlock) (w1.alloc (.cells #[.int .i64 (Ae t).op,.int .u64 (Sets.Aa (Ae t).set 0:Nat),.int .u64 (Sets.Aa (Ae t).set 1:Nat),.int .u64 (Sets.Aa (Ae t).set 2:Nat),.int .u64 (Sets.Aa (Ae t).set 3:Nat),.int .i64 (Ae t).lo,.int .i64 (Ae t).hi,.int .i64 (Ae t).group,.slice a1 (Ae t).args.length c1] 28)) (.slice (some ⟨w1.heap.size,0,none⟩) 1 1) [Ae t]):=by
    have g1:=Nat.le_trans d.o.size L.o.size;exact LiesB.of_one (Ae t) _ 28 ⟨by have:=X.o;omega,fun e=>by have:=(z.o _ e).2;omega⟩ e2.o (e0.o.mono fun b _ D=>⟨by have G:=X.o;have h2:=d.o.size;have h3:wq.heap.size<=b:=D;omega,fun e=>by have G:=(z.o _ e).2;have h2:=d.o.size;have h3:wq.heap.size<=b:=D;omega⟩)
   refine f2.out _ _ (V.o _ i.o) (fun B=>?_);try simp only[Act.put,yT,y9,yS]
   refine HeldTail.HG.done (by kernel_rfl) ?_;simp only[List.drop_succ_cons,List.drop_zero];go_wp2_with (first
    | (at_builtin
       refine Bb _ rfl _ _ rfl (w.heap.size+3) (.slice I j J) N (by rfl) (HR.o.stays (Ab d.o i.o)) (.slice (some ⟨w1.heap.size,0,none⟩) 1 1) [Ae t] (by rfl) e3.o (by have:=T.o;have:=HJ.o;have:=a2.o;simp;omega) (by have G:=X.o;have h2:=d.o.size;have h3:=i.o.size;omega) ?_;intro v7 w7 a0 E f4;obtain⟨g2,g3,rfl⟩:∃a c,v7=.slice a (j+1) c:=by have:=a0.form;rw[List.length_append,T.o]at this;exact this
       have e4:=qh a0;have K:Hid (∀k,k<=w.heap.size+1+1\/wr.heap.size<=k->¬some k=(Value.slice I j J).ownBlock):=fun k hk e=>by have G:=z.o k e;omega
       have U:=qh ((a9.o.stays i.o).chg E (K.o _ (.inl ql)));obtain⟨y0,y1,y2,y3,y4,y5,y6,y7,y8⟩:=U.o.nine;have z8:=U.o.free 8;have a4:=qh ((((HB.o.trans (d.o.mono HB.o.size)).trans (i.o.mono (Nat.le_trans HB.o.size d.o.size)))).trans (E.below (Nat.le_trans HB.o.size (Nat.le_trans d.o.size i.o.size)) (fun k hk e=>K.o k (.inl (by omega)) e)));have a8:=qh (((m.o.stays d.o).stays i.o).chg E (K.o _ (.inl (by omega))));have a7:=qh (((a6.o.stays d.o).stays i.o).chg E (K.o _ (.inl (by omega))));clear a0 E f4))
   go_roundw
   case rel=>exact⟨j+1,_,HJ.o,by go_num,U.o.set 8 _,by rw[e9.o];exact TRow.set2 e4.o (by omega),a4.o.trans ((Chg.setCell w7 (w.heap.size+1+1) 8 _).below a4.o.size (fun k hk e=>by omega)),a8.o.chg (Chg.setCell w7 (w.heap.size+1+1) 8 _) (by omega),a7.o.chg (Chg.setCell w7 (w.heap.size+1+1) 8 _) (by omega)⟩
   case measure=>have:=HJ.o;simp[intOf];omega
  ·have f3:¬(j:Int)< (args.length:Int):=by omega
   have R:N=Aw args:=by rw[<- Q.o,show j=args.length by omega,List.take_length]
   have a5:=qh R;obtain⟨q0,q1,q2,q3,q4,q5,q6,q7,q8⟩:=M.nine;clear z8;obtain⟨d0,d1,d2,d3,d4,d5,d6,d7,d8⟩:=m.o.nine;obtain⟨z0,z1,z2,z3,z4,z5,z6,z7,z8⟩:=m.o.free9;clear M y D R;go_wp2;have en:=(m.o.put9 (.int .i64 o) (.int .u64 (Sets.Aa s 0:Nat)) (.int .u64 (Sets.Aa s 1:Nat)) (.int .u64 (Sets.Aa s 2:Nat)) (.int .u64 (Sets.Aa s 3:Nat)) (.int .i64 l) (.int .i64 h) (.int .i64 g) (.slice I j J)).nine;try unfold put9 at en
   obtain⟨n0,n1,n2,n3,n4,n5,n6,n7,n8⟩:=en;try simp only[Exit.inBlock,Exit.then]
   refine bodyPost_ret (v:=.agg (WA o s l h g (.slice I j J))) (by simp[results,results122,go_sem,n0,n1,n2,n3,n4,n5,n6,n7,n8]) rfl ?_;refine⟨⟨.slice I j J,rfl,?_⟩,HB.o.trans ((Av _ _ (.int .i64 o) (.int .u64 (Sets.Aa s 0:Nat)) (.int .u64 (Sets.Aa s 1:Nat)) (.int .u64 (Sets.Aa s 2:Nat)) (.int .u64 (Sets.Aa s 3:Nat)) (.int .i64 l) (.int .i64 h) (.int .i64 g) (.slice I j J)).below HB.o.size (fun k hk e=>by omega))⟩;have G:=(HR.o.lies (fun b D=>D)).chg (Av _ _ (.int .i64 o) (.int .u64 (Sets.Aa s 0:Nat)) (.int .u64 (Sets.Aa s 1:Nat)) (.int .u64 (Sets.Aa s 2:Nat)) (.int .u64 (Sets.Aa s 3:Nat)) (.int .i64 l) (.int .i64 h) (.int .i64 g) (.slice I j J)) (fun b (D:w.heap.size+3<=b) (e:b=w.heap.size+1)=>by omega);rw[a5.o]at G;exact G.mono (fun b _ (D:w.heap.size+3<=b)=>by omega)
theorem ExpandP_zero (s:Nat->Bool) (l g:Int) (args:List Re) (v:Value) (w:World) (d:Lies w v args):
  Calls Tryz.prog 122 #[Ac v (.mk 5 s l 0 g args)] w fun r w'=>(∃v',r=.returned (Ac v' (Re.mk 1 noP 0 0 0 []))/\LiesB (fun b=>w.heap.size<=b) w' v' [])/\qw w w':=by
 obtain⟨a,c,rfl⟩:=d.shape;have e:=Aj 0;have h:=Aj 1;have i:=Aj 2;have j:=Aj 3;unfold Ac;simp only[Re.op,Re.set,Re.lo,Re.hi,Re.group,Re.args];clear d;go_enter func122,ntmps122;go_wp2;have m:=(by have:=TB.new (w.alloc (.cells (WA 5 s l 0 g (.slice a args.length c)) 28)) (ZL 1 0 0 0 (.slice none 0 0));rw[show (w.alloc (.cells (WA 5 s l 0 g (.slice a args.length c)) 28)).heap.size=w.heap.size+1 from by simp]at this;exact this:TB ((w.alloc (.cells (WA 5 s l 0 g (.slice a args.length c)) 28)).alloc (.cells (ZA 1 0 0 0 (.slice none 0 0)) 28)) (w.heap.size+1) (ZL 1 0 0 0 (.slice none 0 0))).nine;obtain⟨n0,n1,n,o,p,q,t,u,x⟩:=m;try simp only[Exit.inBlock,Exit.then]
 refine bodyPost_ret (v:=.agg (ZA 1 0 0 0 (.slice none 0 0))) (by simp[results,results122,go_sem,n0,n1,n,o,p,q,t,u,x]) rfl ?_;refine⟨⟨.slice none 0 0,?_,LiesB.nil _ _⟩,(qb w _).alloc (by simp) _⟩;show _=Ending.returned (.agg #[.int .i64 1,.int .u64 (Sets.Aa noP 0:Nat),.int .u64 (Sets.Aa noP 1:Nat),.int .u64 (Sets.Aa noP 2:Nat),.int .u64 (Sets.Aa noP 3:Nat),.int .i64 0,.int .i64 0,.int .i64 0,_]);rw[e,h,i,j];rfl
theorem ExpandP_rep (k n:Nat) (hp:PExp k n) (x:Re) (h:Int) (s:Nat->Bool) (l g:Int) (args:List Re) (v:Value) (w:World) (ha:args= [x]) (e3:counted l h=true) (h0:h≠0) (f1:sizes args<n) (hn:n<=8192) (e8:gokL k args=true) (hl:Lies w v args):
  Calls Tryz.prog 122 #[Ac v (.mk 5 s l h g args)] w fun r w'=>(∃v',r=.returned (Ac v' (Dv (Ae x) l h))/\LiesB (fun b=>w.heap.size<=b) w' v' ((Dv (Ae x) l h).args)/\Ag (Dv (Ae x) l h))/\qw w w':=by
 obtain⟨va,vc,vs,rfl,⟨f0,e4⟩,ho⟩:=hl.opened;have i2:args.length<=9223372036854775807:=Nat.le_trans f0 e4;have HP:=qh (fun t v w (ht:t∈args)=>hp t v w (Nat.lt_of_le_of_lt (Hl ht) f1) (Bk e8 ht));have a9:=qh (show args.length<=8192 from by have:=Bc args;omega);have h9:(args.length:Int)<=8192:=by have:=a9.o;omega
 have HO:=qh ho;have i0:=qh hl;unfold Ac;simp only[Re.op,Re.set,Re.lo,Re.hi,Re.group,Re.args];clear hl ho hp e8 f1 f0 e4 hn;obtain⟨f3,g5,g4,g3,i1⟩:=TB.three w (WL 5 s l h g (.slice va args.length vc)) ZL0 (WL 5 s l h g (.slice none 0 0));have b7:=qh e3;have HA:=qh ha;have b0:(h==0)=false:=beq_eq_false_iff_ne.2 h0;have b1:¬h=0:=h0;obtain⟨⟨bo,A,bl,bh,bg,ba⟩,a8⟩:∃tr,Dv (Ae x) l h=tr:=⟨_,rfl⟩;rw[a8];have HY:=qh a8;simp only[Re.op,Re.set,Re.lo,Re.hi,Re.group,Re.args];clear h0 e3 ha a8;go_enter func122,ntmps122;go_wp2
 go_loopw [20] (fun ix wr=>∃(j:Nat) (ov:Value),j<=args.length/\ix=.int .i64 j/\TB wr (w.heap.size+1+1) (WL 5 s l h g ov)/\TRow (fun b=>w.heap.size+3<=b) wr (w.heap.size+3) ov (Aw (args.take j))/\qw w wr/\TB wr (w.heap.size+1) (ZL0)/\TB wr w.heap.size (WL 5 s l h g (.slice va args.length vc))) (fun ix _=>args.length-(intOf ix).toNat)
 case atStart=>exact⟨0,_,Nat.zero_le _,rfl,g5.o,TRow.nil _ _ _,f3.o,g4.o,g3.o⟩
 case round=>
  obtain⟨j,ov,hj,rfl,q,y,B,f2,T⟩:=hrel;obtain⟨V,u⟩:∃x,Aw (args.take j)=x:=⟨_,rfl⟩;have X:=qh u;rw[u]at y;have a0:Hid (V.length=j):=by show _=_;rw[<- u,Gb,List.length_take];omega
  have HR:=qh y;have HB:=qh B;have e0:=qh q;have Y:=qh f2;have b8:=qh T;obtain⟨oa,oc,rfl⟩:∃a c,ov=.slice a j c:=by have:=y.form;rwa [a0.o]at this
  obtain⟨y0,y1,y2,y3,y4,y5,y6,y7,y8⟩:=q.nine;have z8:=q.free 8;clear y u f2;by_cases hjt:j<args.length
  ·have h7:(j:Int)< (args.length:Int):=by omega
   have HJ:=qh hjt;obtain⟨t,tv,b,off,ht,hv,e1,⟨x0,x1,x2,x3,x4,x5,x6,x7,x8⟩,a6,e7,hm⟩:=(HO.o.stays B).at hjt;subst e1;have g6:Hid (Aw (args.take (j+1))=V++ [Ae t]):=by show _=_;rw[Gs args j t ht,X.o]
   have U:w.heap.size+3<=wr.heap.size:=by have:=q.lt;omega
   have K:=qh U;have J:=qh (fun W (z:qw wr W)=>HP.o t tv W hm e7 (a6.stays z));obtain⟨C,D,rfl⟩:=a6.shape;unfold Ac at J;have i:=qh (qb wr (.cells (xA t C D) 28));have g7:=qh (TB.new wr (xL t C D));clear ht hv a6 e7 hm hjt hj B q T
   go_upto_region 8 with fail
   generalize wr.alloc (.cells (xA t C D) 28)=wq at*;obtain⟨k0,k1,k2,k3,k4,k5,k6,k7,k8⟩:=g7.o.nine;have s8:=upc i.o y8;have d9:=qh (e0.o.stays i.o);have g1:=qh (fun W (z:qw wq W)=>J.o W (Ab i.o z));have a3:=qh (fun W (z:qw wq W)=>(And.intro (upc z s8) (And.intro (upc z k0) (And.intro (upc z k1) (And.intro (upc z k2) (And.intro (upc z k3) (And.intro (upc z k4) (And.intro (upc z k5) (And.intro (upc z k6) (And.intro (upc z k7) (upc z k8)))))))))));clear k0 k1 k2 k3 k4 k5 k6 k7 k8 J x0 x1 x2 x3 x4 x5 x6 x7 x8 y0 y1 y2 y3 y4 y5 y6 y7 y8 s8 z8;refine HeldTail.enter (S:=fun w'=>w'.cell? ⟨w.heap.size+1+1,8,none⟩=some (.slice oa j oc)/\xS w' wr.heap.size t C D) 5 (by kernel_rfl) (by kernel_rfl) (a3.o _ ((Below.refl _ wq).drew)) (fun L=>?_);refine HeldTail.HG.take 0 (v:=?_) rfl (by kernel_rfl) (by rfl) (by kernel_rfl) (by kernel_rfl) (fun _ _ _ h=>h) (Or.inl ⟨by rfl,?_⟩) (by assumption) ?_;rotate_left
   ·intro w M
    try dsimp only at M
    go_simp;try with_reducible rfl
   try simp only[Act.put,yT,y9,yS]
   refine HeldTail.HG.take 1 (v:=?_) rfl (by kernel_rfl) (by rfl) (by kernel_rfl) (by kernel_rfl) (fun _ _ _ h=>h) (Or.inl ⟨by rfl,?_⟩) (by assumption) ?_;rotate_left
   ·intro w M
    try dsimp only at M
    go_simp;try with_reducible rfl
   try simp only[Act.put,yT,y9,yS]
   refine HeldTail.HG.take 2 (v:=?_) rfl (by kernel_rfl) (by rfl) (by kernel_rfl) (by kernel_rfl) (fun _ _ _ h=>h) (Or.inl ⟨by rfl,?_⟩) (by assumption) ?_;rotate_left
   ·intro w M
    try dsimp only at M
    go_simp;try with_reducible rfl
   try simp only[Act.put,yT,y9,yS]
   refine HeldTail.HG.go 3 rfl (by rfl) (by kernel_rfl) ?_;intro K3 g9;go_simp;refine (g1.o _ (Below.refl _ wq).drew).mono ?_;rintro g8 w1 ⟨⟨v1,rfl,E,e5⟩,N⟩;have R:Hid (qw wq w1):=Ab ((Below.refl _ wq).drew) N;have f4:=qh E;have f5:=qh e5;obtain⟨a1,c1,rfl⟩:=E.lies.shape;clear E N e5;refine g9.out _ _ (a3.o _ R.o) (fun L=>?_);try simp only[Act.put,yT,y9,yS]
   refine HeldTail.HG.go 4 rfl (by rfl) (by kernel_rfl) ?_;intro K4 h4;go_simp;have b2:=qh (qb w1 (.cells #[.int .i64 (Ae t).op,.int .u64 (Sets.Aa (Ae t).set 0:Nat),.int .u64 (Sets.Aa (Ae t).set 1:Nat),.int .u64 (Sets.Aa (Ae t).set 2:Nat),.int .u64 (Sets.Aa (Ae t).set 3:Nat),.int .i64 (Ae t).lo,.int .i64 (Ae t).hi,.int .i64 (Ae t).group,.slice a1 (Ae t).args.length c1] 28));have m:=qh (R.o.trans (b2.o.mono R.o.size));have I:Hid (∀k,some k=(Value.slice oa j oc).ownBlock->w.heap.size+3<=k/\k<wr.heap.size):=fun k hk=>HR.o.lt k hk.symm;have f9:Hid (LiesB (fun b=>w.heap.size+3<=b/\some b≠(Value.slice oa j oc).ownBlock) (w1.alloc (.cells #[.int .i64 (Ae t).op,.int .u64 (Sets.Aa (Ae t).set 0:Nat),.int .u64 (Sets.Aa (Ae t).set 1:Nat),.int .u64 (Sets.Aa (Ae t).set 2:Nat),.int .u64 (Sets.Aa (Ae t).set 3:Nat),.int .i64 (Ae t).lo,.int .i64 (Ae t).hi,.int .i64 (Ae t).group,.slice a1 (Ae t).args.length c1] 28)) (.slice (some ⟨w1.heap.size,0,none⟩) 1 1) [Ae t]):=by
    have i3:=Nat.le_trans i.o.size R.o.size;exact LiesB.of_one (Ae t) _ 28 ⟨by have:=K.o;omega,fun e=>by have:=(I.o _ e).2;omega⟩ f5.o (f4.o.mono fun b _ B=>⟨by have E:=K.o;have h2:=i.o.size;have h3:wq.heap.size<=b:=B;omega,fun e=>by have E:=(I.o _ e).2;have h2:=i.o.size;have h3:wq.heap.size<=b:=B;omega⟩)
   refine h4.out _ _ (a3.o _ m.o) (fun L=>?_);try simp only[Act.put,yT,y9,yS]
   refine HeldTail.HG.done (by kernel_rfl) ?_;simp only[List.drop_succ_cons,List.drop_zero];go_wp2_with (first
    | (at_builtin
       refine Bb _ rfl _ _ rfl (w.heap.size+3) (.slice oa j oc) V (by rfl) (HR.o.stays (Ab i.o m.o)) (.slice (some ⟨w1.heap.size,0,none⟩) 1 1) [Ae t] (by rfl) f9.o (by have:=a0.o;have:=HJ.o;have:=a9.o;simp;omega) (by have E:=K.o;have h2:=i.o.size;have h3:=m.o.size;omega) ?_;intro v7 w7 a7 O h8;obtain⟨i4,i5,rfl⟩:∃a c,v7=.slice a (j+1) c:=by have:=a7.form;rw[List.length_append,a0.o]at this;exact this
       have g0:=qh a7;have Q:Hid (∀k,k<=w.heap.size+1+1\/wr.heap.size<=k->¬some k=(Value.slice oa j oc).ownBlock):=fun k hk e=>by have E:=I.o k e;omega
       have a2:=qh ((d9.o.stays m.o).chg O (Q.o _ (.inl ql)));obtain⟨y0,y1,y2,y3,y4,y5,y6,y7,y8⟩:=a2.o.nine;have z8:=a2.o.free 8;have b5:=qh ((((HB.o.trans (i.o.mono HB.o.size)).trans (m.o.mono (Nat.le_trans HB.o.size i.o.size)))).trans (O.below (Nat.le_trans HB.o.size (Nat.le_trans i.o.size m.o.size)) (fun k hk e=>Q.o k (.inl (by omega)) e)));have p:=qh (((Y.o.stays i.o).stays m.o).chg O (Q.o _ (.inl (by omega))));have b9:=qh (((b8.o.stays i.o).stays m.o).chg O (Q.o _ (.inl (by omega))));clear a7 O h8))
   go_roundw
   case rel=>exact⟨j+1,_,HJ.o,by go_num,a2.o.set 8 _,by rw[g6.o];exact TRow.set2 g0.o (by omega),b5.o.trans ((Chg.setCell w7 (w.heap.size+1+1) 8 _).below b5.o.size (fun k hk e=>by omega)),p.o.chg (Chg.setCell w7 (w.heap.size+1+1) 8 _) (by omega),b9.o.chg (Chg.setCell w7 (w.heap.size+1+1) 8 _) (by omega)⟩
   case measure=>have:=HJ.o;simp[intOf];omega
  ·have h7:¬(j:Int)< (args.length:Int):=by omega
   have e9:j=1:=by have:=HA.o;subst this;simp at hj hjt;omega
   have e6:V= [Ae x]:=by rw[<- X.o,HA.o,e9];rfl
   subst e9 e6;obtain⟨q0,q1,q2,q3,q4,q5,q6,q7,q8⟩:=T.nine;have U:w.heap.size+3<=wr.heap.size:=by have:=q.lt;omega
   have e2:=qh U;clear z8 hj hjt B T q U;have g2:=HR;have b6:=HB;have c9:=Y;have K:=e2;go_wp2_with fail
   have f8:=qh (g2.out.lies (fun b B=>B));obtain⟨tv,b,off,cc,he,h5,h6,d,P,a5⟩:=f8.o.at0;injection he with he1 he2 he3;subst he1 he3;obtain⟨C,D,rfl⟩:=P.lies.shape;have x0:=d 0 _ rfl;have x1:=d 1 _ rfl;have x2:=d 2 _ rfl;have x3:=d 3 _ rfl;have x4:=d 4 _ rfl;have x5:=d 5 _ rfl;have x6:=d 6 _ rfl;have x7:=d 7 _ rfl;have x8:=d 8 _ rfl;rw[Nat.add_zero]at x0;have a4:=Pz a5 b7.o;rw[HY.o]at a4;have f6:=qh a4;have G:=qh (countedP_any (fun b=>w.heap.size+3<=b) (Ae x) (.slice C (Ae x).args.length D) l h wr.drew a5 (P.stays (Below.refl _ wr).drew) (fun b B=>by have E:wr.heap.size<=b:=B;have h2:=K.o;omega) b7.o);rw[HY.o]at G;unfold Ac at G;clear d P a5 a4 h5 h6 he2
   go_still_tail 8,(by kernel_rfl)
   change wpList _ _ _ _ _ wr.drew;go_wp2_with (first
    | (go_at_call 163
       (refine G.o.mono ?_);rintro g8 w1 ⟨⟨v1,rfl,E⟩,N⟩;have f7:=qh E;obtain⟨a1,c1,rfl⟩:∃a c,v1=.slice a ba.length c:=E.lies.shape;simp only[Re.op,Re.set,Re.lo,Re.hi,Re.group,Re.args];have b3:Hid (qw wr w1):=Ab ((Below.refl _ wr).drew) N;have p:=qh (c9.out.stays b3.o);obtain⟨d0,d1,d2,d3,d4,d5,d6,d7,d8⟩:=p.o.nine;obtain⟨z0,z1,z2,z3,z4,z5,z6,z7,z8⟩:=p.o.free9;clear E N x0 x1 x2 x3 x4 x5 x6 x7 x8 q0 q1 q2 q3 q4 q5 q6 q7 q8 y0 y1 y2 y3 y4 y5 y6 y7 y8))
   have en:=(p.o.put9 (.int .i64 bo) (.int .u64 (Sets.Aa A 0:Nat)) (.int .u64 (Sets.Aa A 1:Nat)) (.int .u64 (Sets.Aa A 2:Nat)) (.int .u64 (Sets.Aa A 3:Nat)) (.int .i64 bl) (.int .i64 bh) (.int .i64 bg) (.slice a1 ba.length c1)).nine;try unfold put9 at en
   obtain⟨n0,n1,n2,n3,n4,n5,n6,n7,n8⟩:=en;try simp only[Exit.inBlock,Exit.then]
   refine bodyPost_ret (v:=.agg (WA bo A bl bh bg (.slice a1 ba.length c1))) (by simp[results,results122,go_sem,n0,n1,n2,n3,n4,n5,n6,n7,n8]) rfl ?_;have b4:=qh (b6.out.trans (b3.o.mono b6.out.size));refine⟨⟨.slice a1 ba.length c1,rfl,?_,f6.o⟩,b4.o.trans ((Av _ _ (.int .i64 bo) (.int .u64 (Sets.Aa A 0:Nat)) (.int .u64 (Sets.Aa A 1:Nat)) (.int .u64 (Sets.Aa A 2:Nat)) (.int .u64 (Sets.Aa A 3:Nat)) (.int .i64 bl) (.int .i64 bh) (.int .i64 bg) (.slice a1 ba.length c1)).below b4.o.size (fun k hk e=>by omega))⟩;exact (f7.o.chg (Av _ _ (.int .i64 bo) (.int .u64 (Sets.Aa A 0:Nat)) (.int .u64 (Sets.Aa A 1:Nat)) (.int .u64 (Sets.Aa A 2:Nat)) (.int .u64 (Sets.Aa A 3:Nat)) (.int .i64 bl) (.int .i64 bh) (.int .i64 bg) (.slice a1 ba.length c1)) (fun b (B:w.heap.size+3<=b) (e:b=w.heap.size+1)=>by omega)).mono (fun b _ (B:w.heap.size+3<=b)=>by omega)
theorem reVal_noSet (v:Value) {o l h g:Int} {s:Nat->Bool} (a b:List Re) (c:Dg s=true):Ac v (.mk o noP l h g a)=Ac v (.mk o s l h g b):=by
 have h:=Mt s;rw[c]at h;have h:=h.symm;simp only[Bool.and_eq_true,beq_iff_eq]at h;unfold Ac;simp only[Re.op,Re.set,Re.lo,Re.hi,Re.group,Aj,h.1,h.2.1,h.2.2.1,h.2.2.2]
theorem Su (k:Nat):∀n,n<=8192->PExp k n
 | 0,_=>fun e v w hs=>absurd hs (by omega)
 |n+1,hn=>fun e v w hs hg hf hl=>by
  have hp:=Su k n (by omega);obtain⟨o,s,l,h,g,args⟩:=e;obtain⟨u,y,A,q⟩:=He hg;have i:sizes args<n:=by unfold size at hs;omega
  by_cases h5:o=5
  ·subst h5
   obtain⟨⟨x,rfl⟩,rfl,m⟩:(∃x,args= [x])/\g=0/\Dg s=true:=by
    rcases Ek u with h | h | h | h | h | h
    · omega
    · omega
    · omega
    · exact h.2
    · omega
    · omega
   have j:=y rfl;rw[Nk];by_cases h0:h=0
   ·subst h0
    have e:simple l 0=false:=by simp[simple]
    rw[if_pos e,show repeated (Ae x) l 0=Re.mk 1 noP 0 0 0 [] from if_pos rfl];refine (ExpandP_zero s l 0 [x] v w hl).mono ?_;rintro r t ⟨⟨c,rfl,a⟩,d⟩;exact⟨⟨c,rfl,a,Le (W64.lit (by omega)) (W64.lit (by omega)) (W64.lit (by omega)) (W64.lit (by omega))⟩,d⟩
   ·have z:Ag (Ae x)\/True:=.inr trivial
    refine (ExpandP_rep k n hp x h s l 0 [x] v w rfl j h0 i (by omega) q hl).mono ?_;rintro r t ⟨⟨c,rfl,a,b⟩,d⟩;by_cases hsm:simple l h=true
    ·have e:Dv (Ae x) l h=repT (Ae x) l h:=if_pos hsm
     rw[e]at a b ⊢;rw[if_neg (by rw[hsm];decide)];exact⟨⟨c,by rw[show Ac c (repT (Ae x) l h)=Ac c (Re.mk 5 s l h 0 [Ae x]) from reVal_noSet c _ _ m],a,b⟩,d⟩
    ·have p:simple l h=false:=by simpa using hsm
     have e:Dv (Ae x) l h=repeated (Ae x) l h:=if_neg hsm;rw[e]at a b ⊢;rw[if_pos p];exact⟨⟨c,rfl,a,b⟩,d⟩
  ·rw[Ib h5]
   refine (Yb k n hp o s l h g args v w h5 i (by omega) q hl).mono ?_;rintro r t ⟨⟨c,rfl,a⟩,d⟩;exact⟨⟨c,rfl,a,hf⟩,d⟩
end ReMem
namespace ReMem
open Go Go.RowKit MatchMath
def RExp (k n:Nat):Prop:=∀(e:Re) (v:Value) (w:World),size e<n->gok k e=true->Ag e->Lies w v e.args->Calls Tryz.prog 96 #[Ac v e] w fun r w'=>(∃v',r=.returned (Ac v' (Ae e))/\LiesB (fun b=>w.heap.size<=b) w' v' (Ae e).args/\Ag (Ae e))/\qw w w'
theorem ExpandR_all (k n:Nat) (hp:RExp k n) (o:Int) (s:Nat->Bool) (l h g:Int) (args:List Re) (v:Value) (w:World) (tr:Re) (a5:(o≠5/\Re.mk o s l h g (Aw args)=tr/\Ag tr)\/(o=5/\simple l h=true/\Re.mk o s l h g (Aw args)=tr/\Ag tr)\/∃x,o=5/\args= [x]/\counted l h=true/\simple l h=false/\repeated (Ae x) l h=tr) (h4:sizes args<n) (hn:n<=8192) (g8:gokL k args=true) (hl:Lies w v args):
  Calls Tryz.prog 96 #[Ac v (.mk o s l h g args)] w fun r w'=>(∃v',r=.returned (Ac v' tr)/\LiesB (fun b=>w.heap.size<=b) w' v' tr.args/\Ag tr)/\qw w w':=by
 obtain⟨bo,O,bl,bh,bg,ba⟩:=tr;have b5:=qh a5;clear a5;obtain⟨va,vc,vs,rfl,⟨h0,g6⟩,ho⟩:=hl.opened;have k0:args.length<=9223372036854775807:=Nat.le_trans h0 g6;have HP:=qh (fun t v w (ht:t∈args)=>hp t v w (Nat.lt_of_le_of_lt (Hl ht) h4) (Bk g8 ht));have f0:=qh (show args.length<=8192 from by have:=Bc args;omega);have j8:(args.length:Int)<=8192:=by have:=f0.o;omega
 have HO:=qh ho;have i2:=qh hl;unfold Ac;simp only[Re.op,Re.set,Re.lo,Re.hi,Re.group,Re.args];clear hl ho hp g8 h4 h0 g6 hn;obtain⟨h7,j0,i9,i8,j9⟩:=TB.three w (WL o s l h g (.slice va args.length vc)) ZL0 (WL o s l h g (.slice none 0 0));go_enter func96,ntmps96;go_wp2
 go_loopw [4] (fun ix wr=>∃(j:Nat) (ov:Value),j<=args.length/\ix=.int .i64 j/\TB wr (w.heap.size+1+1) (WL o s l h g ov)/\TRow (fun b=>w.heap.size+3<=b) wr (w.heap.size+3) ov (Aw (args.take j))/\qw w wr/\TB wr (w.heap.size+1) (ZL0)/\TB wr w.heap.size (WL o s l h g (.slice va args.length vc))) (fun ix _=>args.length-(intOf ix).toNat)
 case atStart=>exact⟨0,_,Nat.zero_le _,rfl,j0.o,TRow.nil _ _ _,h7.o,i9.o,i8.o⟩
 case round=>
  obtain⟨j,ov,hj,rfl,u,N,m,h6,D⟩:=hrel;obtain⟨P,M⟩:∃x,Aw (args.take j)=x:=⟨_,rfl⟩;have J:=qh M;rw[M]at N;have b7:Hid (P.length=j):=by show _=_;rw[<- M,Gb,List.length_take];omega
  have HR:=qh N;have Q:=qh m;have b4:=qh u;have A:=qh h6;have b3:=qh D;obtain⟨G,I,rfl⟩:∃a c,ov=.slice a j c:=by have:=N.form;rwa [b7.o]at this
  obtain⟨y0,y1,y2,y3,y4,y5,y6,y7,y8⟩:=u.nine;have z8:=u.free 8;clear N M h6;by_cases hjt:j<args.length
  ·have j6:(j:Int)< (args.length:Int):=by omega
   have HJ:=qh hjt;obtain⟨t,tv,b,off,ht,hv,e1,⟨x0,x1,x2,x3,x4,x5,x6,x7,x8⟩,e0,C,hm⟩:=(HO.o.stays m).at hjt;subst e1;have j1:Hid (Aw (args.take (j+1))=P++ [Ae t]):=by show _=_;rw[Gs args j t ht,J.o]
   have b2:w.heap.size+3<=wr.heap.size:=by have:=u.lt;omega
   have Y:=qh b2;have X:=qh (fun W (E:qw wr W)=>HP.o t tv W hm C (e0.stays E));obtain⟨e8,e9,rfl⟩:=e0.shape;unfold Ac at X;clear ht hv e0 C hm hjt hj m u;obtain⟨q0,q1,q2,q3,q4,q5,q6,q7,q8⟩:=D.nine;clear D;have q:=qh (Below.refl wr.heap.size wr);have g1:=b4
   go_upto_region 6 with fail
   have i6:=X;have b9:=qh (fun W (E:qw wr W)=>(And.intro (upc E y8) (And.intro (upc E q8) (And.intro (upc E x0) (And.intro (upc E x1) (And.intro (upc E x2) (And.intro (upc E x3) (And.intro (upc E x4) (And.intro (upc E x5) (And.intro (upc E x6) (And.intro (upc E x7) (upc E x8))))))))))));clear q0 q1 q2 q3 q4 q5 q6 q7 q8 X x0 x1 x2 x3 x4 x5 x6 x7 x8 y0 y1 y2 y3 y4 y5 y6 y7 y8 z8;refine HeldTail.enter (S:=fun w'=>w'.cell? ⟨w.heap.size+1+1,8,none⟩=some (.slice G j I)/\w'.cell? ⟨w.heap.size,8,none⟩=some (.slice (some ⟨b,off,none⟩) args.length vc)/\tS w' b (off+j*9) t e8 e9) 9 (by kernel_rfl) (by kernel_rfl) (b9.o _ ((Below.refl _ wr).drew)) (fun a0=>?_);refine HeldTail.HG.take 0 (v:=?_) rfl (by kernel_rfl) (by rfl) (by kernel_rfl) (by kernel_rfl) (fun _ _ _ h=>h) (Or.inl ⟨by rfl,?_⟩) (by assumption) ?_;rotate_left
   ·intro w i
    try dsimp only at i
    go_simp;try with_reducible rfl
   try simp only[Act.put,yT,y9,yS]
   refine HeldTail.HG.take 1 (v:=?_) rfl (by kernel_rfl) (by rfl) (by kernel_rfl) (by kernel_rfl) (fun _ _ _ h=>h) (Or.inl ⟨by rfl,?_⟩) (by assumption) ?_;rotate_left
   ·intro w i
    try dsimp only at i
    go_simp;try with_reducible rfl
   try simp only[Act.put,yT,y9,yS]
   refine HeldTail.HG.take 2 (v:=?_) rfl (by kernel_rfl) (by rfl) (by kernel_rfl) (by kernel_rfl) (fun _ _ _ h=>h) (Or.inl ⟨by rfl,?_⟩) (by assumption) ?_;rotate_left
   ·intro w i
    try dsimp only at i
    go_simp;try with_reducible rfl
   try simp only[Act.put,yT,y9,yS]
   refine HeldTail.HG.take 3 (v:=?_) rfl (by kernel_rfl) (by rfl) (by kernel_rfl) (by kernel_rfl) (fun _ _ _ h=>h) (Or.inl ⟨by rfl,?_⟩) (by assumption) ?_;rotate_left
   ·intro w i
    try dsimp only at i
    go_simp;try with_reducible rfl
   try simp only[Act.put,yT,y9,yS]
   refine HeldTail.HG.take 4 (v:=?_) rfl (by kernel_rfl) (by rfl) (by kernel_rfl) (by kernel_rfl) (fun _ _ _ h=>h) (Or.inl ⟨by rfl,?_⟩) (by assumption) ?_;rotate_left
   ·intro w i
    try dsimp only at i
    go_simp;try with_reducible rfl
   try simp only[Act.put,yT,y9,yS]
   refine HeldTail.HG.take 5 (v:=?_) rfl (by kernel_rfl) (by rfl) (by kernel_rfl) (by kernel_rfl) (fun _ _ _ h=>h) (Or.inl ⟨by rfl,?_⟩) (by assumption) ?_;rotate_left
   ·intro w i
    try dsimp only at i
    go_simp;try with_reducible rfl
   try simp only[Act.put,yT,y9,yS]
   refine HeldTail.HG.take 6 (v:=?_) rfl (by kernel_rfl) (by rfl) (by kernel_rfl) (by kernel_rfl) (fun _ _ _ h=>h) (Or.inl ⟨by rfl,?_⟩) (by assumption) ?_;rotate_left
   ·intro w i
    try dsimp only at i
    go_simp;try with_reducible rfl
   try simp only[Act.put,yT,y9,yS]
   refine HeldTail.HG.go 7 rfl (by rfl) (by kernel_rfl) ?_;intro K7 j2;go_simp;refine (i6.out _ (Below.refl _ wr).drew).mono ?_;rintro g4 w1 ⟨⟨v1,rfl,y,g7⟩,a2⟩;have a9:Hid (qw wr w1):=Ab ((Below.refl _ wr).drew) a2;have h8:=qh y;have h9:=qh g7;obtain⟨a1,c1,rfl⟩:=y.lies.shape;clear y a2 g7;refine j2.out _ _ (b9.o _ a9.o) (fun a0=>?_);try simp only[Act.put,yT,y9,yS]
   refine HeldTail.HG.go 8 rfl (by rfl) (by kernel_rfl) ?_;intro K8 j3;go_simp;have f1:=qh (qb w1 (.cells #[.int .i64 (Ae t).op,.int .u64 (Sets.Aa (Ae t).set 0:Nat),.int .u64 (Sets.Aa (Ae t).set 1:Nat),.int .u64 (Sets.Aa (Ae t).set 2:Nat),.int .u64 (Sets.Aa (Ae t).set 3:Nat),.int .i64 (Ae t).lo,.int .i64 (Ae t).hi,.int .i64 (Ae t).group,.slice a1 (Ae t).args.length c1] 28));have z:=qh (a9.o.trans (f1.o.mono a9.o.size));have V:Hid (∀k,some k=(Value.slice G j I).ownBlock->w.heap.size+3<=k/\k<wr.heap.size):=fun k hk=>HR.o.lt k hk.symm;have i4:Hid (LiesB (fun b=>w.heap.size+3<=b/\some b≠(Value.slice G j I).ownBlock) (w1.alloc (.cells #[.int .i64 (Ae t).op,.int .u64 (Sets.Aa (Ae t).set 0:Nat),.int .u64 (Sets.Aa (Ae t).set 1:Nat),.int .u64 (Sets.Aa (Ae t).set 2:Nat),.int .u64 (Sets.Aa (Ae t).set 3:Nat),.int .i64 (Ae t).lo,.int .i64 (Ae t).hi,.int .i64 (Ae t).group,.slice a1 (Ae t).args.length c1] 28)) (.slice (some ⟨w1.heap.size,0,none⟩) 1 1) [Ae t]):=by
    have m0:=Nat.le_trans q.o.size a9.o.size;exact LiesB.of_one (Ae t) _ 28 ⟨by have:=Y.o;omega,fun e=>by have:=(V.o _ e).2;omega⟩ h9.o (h8.o.mono fun b _ m=>⟨by have y:=Y.o;have h2:=q.o.size;have h3:wr.heap.size<=b:=m;omega,fun e=>by have y:=(V.o _ e).2;have h2:=q.o.size;have h3:wr.heap.size<=b:=m;omega⟩)
   refine j3.out _ _ (b9.o _ z.o) (fun a0=>?_);try simp only[Act.put,yT,y9,yS]
   refine HeldTail.HG.done (by kernel_rfl) ?_;simp only[List.drop_succ_cons,List.drop_zero];go_wp2_with (first
    | (at_builtin
       refine Bb _ rfl _ _ rfl (w.heap.size+3) (.slice G j I) P (by rfl) (HR.o.stays (Ab q.o z.o)) (.slice (some ⟨w1.heap.size,0,none⟩) 1 1) [Ae t] (by rfl) i4.o (by have:=b7.o;have:=HJ.o;have:=f0.o;simp;omega) (by have y:=Y.o;have h2:=q.o.size;have h3:=z.o.size;omega) ?_;intro v7 w7 e7 a4 j7;obtain⟨m1,m2,rfl⟩:∃a c,v7=.slice a (j+1) c:=by have:=e7.form;rw[List.length_append,b7.o]at this;exact this
       have i5:=qh e7;have a8:Hid (∀k,k<=w.heap.size+1+1\/wr.heap.size<=k->¬some k=(Value.slice G j I).ownBlock):=fun k hk e=>by have y:=V.o k e;omega
       have b8:=qh ((g1.out.stays z.o).chg a4 (a8.o _ (.inl ql)));obtain⟨y0,y1,y2,y3,y4,y5,y6,y7,y8⟩:=b8.o.nine;have z8:=b8.o.free 8;have f4:=qh ((((Q.o.trans (q.o.mono Q.o.size)).trans (z.o.mono (Nat.le_trans Q.o.size q.o.size)))).trans (a4.below (Nat.le_trans Q.o.size (Nat.le_trans q.o.size z.o.size)) (fun k hk e=>a8.o k (.inl (by omega)) e)));have B:=qh (((A.o.stays q.o).stays z.o).chg a4 (a8.o _ (.inl (by omega))));have f9:=qh (((b3.o.stays q.o).stays z.o).chg a4 (a8.o _ (.inl (by omega))));clear e7 a4 j7))
   go_roundw
   case rel=>exact⟨j+1,_,HJ.o,by go_num,b8.o.set 8 _,by rw[j1.o];exact TRow.set2 i5.o (by omega),f4.o.trans ((Chg.setCell w7 (w.heap.size+1+1) 8 _).below f4.o.size (fun k hk e=>by omega)),B.o.chg (Chg.setCell w7 (w.heap.size+1+1) 8 _) (by omega),f9.o.chg (Chg.setCell w7 (w.heap.size+1+1) 8 _) (by omega)⟩
   case measure=>have:=HJ.o;simp[intOf];omega
  ·have j6:¬(j:Int)< (args.length:Int):=by omega
   obtain⟨q0,q1,q2,q3,q4,q5,q6,q7,q8⟩:=D.nine;have b2:w.heap.size+3<=wr.heap.size:=by have:=u.lt;omega
   have g3:=qh b2;clear z8 b2;rcases b5.o with ⟨h5,e,C⟩ | ⟨rfl,a6,e,C⟩ | ⟨x,rfl,ha,g5,a6,e⟩
   ·injection e with e1 e2 e3 e4 e5 e6
    subst e1 e2 e3 e4 e5 e6;have b0:(o==5)=false:=beq_eq_false_iff_ne.2 h5;have b6:=qh C;have p:P=Aw args:=by rw[<- J.o,show j=args.length by omega,List.take_length]
    have U:=qh p;clear C p D u m;obtain⟨d0,d1,d2,d3,d4,d5,d6,d7,d8⟩:=A.o.nine;obtain⟨z0,z1,z2,z3,z4,z5,z6,z7,z8⟩:=A.o.free9;go_wp2;have en:=(A.o.put9 (.int .i64 o) (.int .u64 (Sets.Aa s 0:Nat)) (.int .u64 (Sets.Aa s 1:Nat)) (.int .u64 (Sets.Aa s 2:Nat)) (.int .u64 (Sets.Aa s 3:Nat)) (.int .i64 l) (.int .i64 h) (.int .i64 g) (.slice G j I)).nine;try unfold put9 at en
    obtain⟨n0,n1,n2,n3,n4,n5,n6,n7,n8⟩:=en;try simp only[Exit.inBlock,Exit.then]
    refine bodyPost_ret (v:=.agg (WA o s l h g (.slice G j I))) (by simp[results,results96,go_sem,n0,n1,n2,n3,n4,n5,n6,n7,n8]) rfl ?_;refine⟨⟨.slice G j I,rfl,?_,b6.o⟩,Q.o.trans ((Av _ _ (.int .i64 o) (.int .u64 (Sets.Aa s 0:Nat)) (.int .u64 (Sets.Aa s 1:Nat)) (.int .u64 (Sets.Aa s 2:Nat)) (.int .u64 (Sets.Aa s 3:Nat)) (.int .i64 l) (.int .i64 h) (.int .i64 g) (.slice G j I)).below Q.o.size (fun k hk e=>by omega))⟩;have y:=(HR.o.lies (fun b m=>m)).chg (Av _ _ (.int .i64 o) (.int .u64 (Sets.Aa s 0:Nat)) (.int .u64 (Sets.Aa s 1:Nat)) (.int .u64 (Sets.Aa s 2:Nat)) (.int .u64 (Sets.Aa s 3:Nat)) (.int .i64 l) (.int .i64 h) (.int .i64 g) (.slice G j I)) (fun b (m:w.heap.size+3<=b) (e:b=w.heap.size+1)=>by omega);rw[U.o]at y;exact y.mono (fun b _ (m:w.heap.size+3<=b)=>by omega)
   have b6:=qh C;have p:P=Aw args:=by rw[<- J.o,show j=args.length by omega,List.take_length]
   have U:=qh p;injection e with e1 e2 e3 e4 e5 e6;subst e1 e2 e3 e4 e5 e6;have b1:=qh a6;clear a6 C p D u m;rotate_left;have HA:=qh ha;have f7:=qh g5;have b1:=qh a6;have HY:=qh e;have g9:j=1:=by have:=HA.o;subst this;simp at hj hjt;omega
   have p:P= [Ae x]:=by rw[<- J.o,HA.o,g9];rfl
   subst g9 p;clear ha g5 a6 e hj hjt m D u;rotate_left;all_goals
    have K:=qh (fun W (E:qw wr W)=>Tp (.mk 5 s l h g args) (.slice va args.length vc) W ((i2.o.stays Q.o).stays E));rw[show simple (Re.mk 5 s l h g args).lo (Re.mk 5 s l h g args).hi=_ from b1.o]at K;unfold Ac at K;simp only[Re.op,Re.set,Re.lo,Re.hi,Re.group,Re.args]at K;go_wp2_with (first
     | (go_at_call 141
        (refine (K.o _ (Below.refl _ _)).mono ?_);rintro g4 w9 ⟨rfl,a3⟩;have R:=qh a3;have f8:=qh (b3.o.stays a3);have L:=qh (A.o.stays a3);have g2:=qh (b4.o.stays a3);clear q0 q1 q2 q3 q4 q5 q6 q7 q8 y0 y1 y2 y3 y4 y5 y6 y7 y8;obtain⟨q0,q1,q2,q3,q4,q5,q6,q7,q8⟩:=f8.o.nine;obtain⟨y0,y1,y2,y3,y4,y5,y6,y7,y8⟩:=g2.o.nine;obtain⟨d0,d1,d2,d3,d4,d5,d6,d7,d8⟩:=L.o.nine;obtain⟨z0,z1,z2,z3,z4,z5,z6,z7,z8⟩:=L.o.free9;clear a3))
   ·have en:=(L.o.put9 (.int .i64 5) (.int .u64 (Sets.Aa s 0:Nat)) (.int .u64 (Sets.Aa s 1:Nat)) (.int .u64 (Sets.Aa s 2:Nat)) (.int .u64 (Sets.Aa s 3:Nat)) (.int .i64 l) (.int .i64 h) (.int .i64 g) (.slice G j I)).nine
    try unfold put9 at en
    obtain⟨n0,n1,n2,n3,n4,n5,n6,n7,n8⟩:=en;try simp only[Exit.inBlock,Exit.then]
    refine bodyPost_ret (v:=.agg (WA 5 s l h g (.slice G j I))) (by simp[results,results96,go_sem,n0,n1,n2,n3,n4,n5,n6,n7,n8]) rfl ?_;have f5:=qh (Q.o.trans (R.o.mono Q.o.size));refine⟨⟨.slice G j I,rfl,?_,b6.o⟩,f5.o.trans ((Av _ _ (.int .i64 5) (.int .u64 (Sets.Aa s 0:Nat)) (.int .u64 (Sets.Aa s 1:Nat)) (.int .u64 (Sets.Aa s 2:Nat)) (.int .u64 (Sets.Aa s 3:Nat)) (.int .i64 l) (.int .i64 h) (.int .i64 g) (.slice G j I)).below f5.o.size (fun k hk e=>by omega))⟩;have y:=((HR.o.stays R.o).lies (fun b m=>m)).chg (Av _ _ (.int .i64 5) (.int .u64 (Sets.Aa s 0:Nat)) (.int .u64 (Sets.Aa s 1:Nat)) (.int .u64 (Sets.Aa s 2:Nat)) (.int .u64 (Sets.Aa s 3:Nat)) (.int .i64 l) (.int .i64 h) (.int .i64 g) (.slice G j I)) (fun b (m:w.heap.size+3<=b) (e:b=w.heap.size+1)=>by omega);rw[U.o]at y;exact y.mono (fun b _ (m:w.heap.size+3<=b)=>by omega)
   ·have i7:=qh (HR.o.stays R.o)
    have f6:=qh (Q.o.trans (R.o.mono Q.o.size));have g0:=L;have Y:=qh (Nat.le_trans g3.o R.o.size);clear d0 d1 d2 d3 d4 d5 d6 d7 d8 z0 z1 z2 z3 z4 z5 z6 z7 z8;have i3:=qh (i7.o.lies (fun b m=>m));obtain⟨tv,b,off,cc,he,j4,j5,d,a7,d9⟩:=i3.o.at0;injection he with he1 he2 he3;subst he1 he3;obtain⟨e8,e9,rfl⟩:=a7.lies.shape;have x0:=d 0 _ rfl;have x1:=d 1 _ rfl;have x2:=d 2 _ rfl;have x3:=d 3 _ rfl;have x4:=d 4 _ rfl;have x5:=d 5 _ rfl;have x6:=d 6 _ rfl;have x7:=d 7 _ rfl;have x8:=d 8 _ rfl;rw[Nat.add_zero]at x0;have c9:=Pz d9 f7.o;rw[show Dv (Ae x) l h=repeated (Ae x) l h from if_neg (by rw[b1.o];decide),HY.o]at c9;have i0:=qh c9;have T:=qh (Yp (fun b=>w.heap.size+3<=b) (Ae x) (.slice e8 (Ae x).args.length e9) l h w9.drew d9 (a7.stays (Below.refl _ w9).drew) (fun b m=>by have y:w9.heap.size<=b:=m;have h2:=Y.o;omega) f7.o b1.o);rw[HY.o]at T;unfold Ac at T;clear d a7 d9 c9 j4 j5 he2
    go_still_tail 8,(by kernel_rfl)
    change wpList _ _ _ _ _ w9.drew;go_wp2_with (first
     | (go_at_call 142
        (refine T.o.mono ?_);rintro g4 w1 ⟨⟨v1,rfl,y⟩,a2⟩;have i1:=qh y;obtain⟨a1,c1,rfl⟩:∃a c,v1=.slice a ba.length c:=y.lies.shape;simp only[Re.op,Re.set,Re.lo,Re.hi,Re.group,Re.args];have f2:Hid (qw w9 w1):=Ab ((Below.refl _ w9).drew) a2;have B:=qh (g0.out.stays f2.o);obtain⟨d0,d1,d2,d3,d4,d5,d6,d7,d8⟩:=B.o.nine;obtain⟨z0,z1,z2,z3,z4,z5,z6,z7,z8⟩:=B.o.free9;clear y a2 x0 x1 x2 x3 x4 x5 x6 x7 x8 q0 q1 q2 q3 q4 q5 q6 q7 q8 y0 y1 y2 y3 y4 y5 y6 y7 y8))
    have en:=(B.o.put9 (.int .i64 bo) (.int .u64 (Sets.Aa O 0:Nat)) (.int .u64 (Sets.Aa O 1:Nat)) (.int .u64 (Sets.Aa O 2:Nat)) (.int .u64 (Sets.Aa O 3:Nat)) (.int .i64 bl) (.int .i64 bh) (.int .i64 bg) (.slice a1 ba.length c1)).nine;try unfold put9 at en
    obtain⟨n0,n1,n2,n3,n4,n5,n6,n7,n8⟩:=en;try simp only[Exit.inBlock,Exit.then]
    refine bodyPost_ret (v:=.agg (WA bo O bl bh bg (.slice a1 ba.length c1))) (by simp[results,results96,go_sem,n0,n1,n2,n3,n4,n5,n6,n7,n8]) rfl ?_;have f3:=qh (f6.o.trans (f2.o.mono f6.o.size));refine⟨⟨.slice a1 ba.length c1,rfl,?_,i0.o⟩,f3.o.trans ((Av _ _ (.int .i64 bo) (.int .u64 (Sets.Aa O 0:Nat)) (.int .u64 (Sets.Aa O 1:Nat)) (.int .u64 (Sets.Aa O 2:Nat)) (.int .u64 (Sets.Aa O 3:Nat)) (.int .i64 bl) (.int .i64 bh) (.int .i64 bg) (.slice a1 ba.length c1)).below f3.o.size (fun k hk e=>by omega))⟩;exact (i1.o.chg (Av _ _ (.int .i64 bo) (.int .u64 (Sets.Aa O 0:Nat)) (.int .u64 (Sets.Aa O 1:Nat)) (.int .u64 (Sets.Aa O 2:Nat)) (.int .u64 (Sets.Aa O 3:Nat)) (.int .i64 bl) (.int .i64 bh) (.int .i64 bg) (.slice a1 ba.length c1)) (fun b (m:w.heap.size+3<=b) (e:b=w.heap.size+1)=>by omega)).mono (fun b _ (m:w.heap.size+3<=b)=>by omega)
theorem Sv (k:Nat):∀n,n<=8192->RExp k n
 | 0,_=>fun e v w hs=>absurd hs (by omega)
 |n+1,hn=>fun e v w hs hg hf hl=>by
  have hp:=Sv k n (by omega);obtain⟨o,s,l,h,g,args⟩:=e;obtain⟨d,i,p,j⟩:=He hg;have c:sizes args<n:=by unfold size at hs;omega
  refine ExpandR_all k n hp o s l h g args v w _ ?_ c (by omega) j hl;by_cases h5:o=5
  ·subst h5
   obtain⟨⟨x,rfl⟩,rfl,m⟩:(∃x,args= [x])/\g=0/\Dg s=true:=by
    rcases Ek d with h | h | h | h | h | h
    · omega
    · omega
    · omega
    · exact h.2
    · omega
    · omega
   have b:=i rfl;rw[Nk];by_cases hsm:simple l h=true
   ·rw[if_neg (by rw[hsm];decide)]
    exact .inr (.inl ⟨rfl,hsm,rfl,hf⟩)
   ·have a:simple l h=false:=by simpa using hsm
    rw[if_pos a];exact .inr (.inr ⟨x,rfl,rfl,b,a,rfl⟩)
  ·rw[Ib h5]
   exact .inl ⟨h5,rfl,hf⟩
end ReMem
end Go.Proofs.YtjefcpjciogcjaaGreatDoor
