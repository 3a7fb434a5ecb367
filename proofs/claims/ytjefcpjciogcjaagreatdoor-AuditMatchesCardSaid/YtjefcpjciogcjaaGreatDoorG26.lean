/- Lemmas for the walk of the law, in 4 parts. No condition beyond what each states. -/
import Derived.Test.YtjefcpjciogcjaaGreatDoorG23
import Derived.Test.YtjefcpjciogcjaaGreatDoorG19
import Derived.Test.YtjefcpjciogcjaaGreatDoorG5
import Derived.Test.YtjefcpjciogcjaaGreatDoorG24
import Derived.Test.YtjefcpjciogcjaaGreatDoorG20
namespace Go.Proofs.YtjefcpjciogcjaaGreatDoor
set_option maxRecDepth 100000
set_option linter.unusedVariables false
set_option maxHeartbeats 16000000
open List renaming setIfInBounds_toArray->yT,set_cons_zero->y9,set_cons_succ->yS
open Tryz
namespace ReMem
open Go Go.RowKit MatchMath
def PClo (n:Nat):Prop:=∀(e:Re) (v:Value) (w:World),size e<n->Ag e->Lies w v e.args->Calls Tryz.prog 121 #[Ac v e] w fun r w'=>(∃v',r=.returned (Ac v' e)/\LiesB (fun b=>w.heap.size<=b) w' v' e.args)/\qw w w'
theorem clone_step (n:Nat) (hp:PClo n) (o l h g:Int) (s:Nat->Bool) (args:List Re) (v:Value) (w:World) (a7:sizes args<n) (hn:n<=8192) (hl:Lies w v args):
  Calls Tryz.prog 121 #[Ac v (.mk o s l h g args)] w fun r w'=>(∃v',r=.returned (Ac v' (.mk o s l h g args))/\LiesB (fun b=>w.heap.size<=b) w' v' args)/\qw w w':=by
 obtain⟨va,vc,vs,rfl,⟨a6,a5⟩,ho⟩:=hl.opened;have e5:args.length<=9223372036854775807:=Nat.le_trans a6 a5;have HP:=qh (fun t v w (ht:t∈args)=>hp t v w (Nat.lt_of_le_of_lt (Hl ht) a7));have T:=qh (show args.length<=8192 from by have:=Bc args;omega);have e2:(args.length:Int)<=8192:=by have:=T.o;omega
 have HO:=qh ho;unfold Ac;simp only[Re.op,Re.set,Re.lo,Re.hi,Re.group];clear hl ho hp a7 a6 a5 hn;obtain⟨b0,b7,b6,e3⟩:=TB.two w (WL o s l h g (.slice va args.length vc)) ZL0;go_enter func121,ntmps121;go_wp2
 go_loopw [3,9] (fun lv ix wr=>∃(j:Nat) (ov:Value),j<=args.length/\ix=.int .i64 j/\ov=lv/\TRow (fun b=>w.heap.size+2<=b) wr (w.heap.size+2) ov (args.take j)/\qw w wr/\TB wr (w.heap.size+1) (ZL0)/\TB wr w.heap.size (WL o s l h g (.slice va args.length vc))) (fun _ ix _=>args.length-(intOf ix).toNat)
 case atStart=>exact⟨0,_,Nat.zero_le _,rfl,rfl,TRow.nil _ _ _,b0.o,b7.o,b6.o⟩
 case round=>
  obtain⟨j,ov,hj,rfl,rfl,p,u,S,a8⟩:=hrel;obtain⟨G,m⟩:∃x,args.take j=x:=⟨_,rfl⟩;have I:=qh m;rw[m]at p;have M:Hid (G.length=j):=by show _=_;rw[<- m,List.length_take];omega
  have HR:=qh p;have V:=qh u;have K:=qh S;have i:=qh a8;obtain⟨y,z,rfl⟩:∃a c,ov=.slice a j c:=by have:=p.form;rwa [M.o]at this
  have a9:w.heap.size+2<=wr.heap.size:=by have:=S.lt;omega
  have O:=qh a9;clear p m S a8 a9;by_cases hjt:j<args.length
  ·have b9:(j:Int)< (args.length:Int):=by omega
   have HJ:=qh hjt;obtain⟨t,tv,b,off,ht,hv,e1,⟨x0,x1,x2,x3,x4,x5,x6,x7,x8⟩,Q,P,hm⟩:=(HO.o.stays u).at hjt;subst e1;have b8:Hid (args.take (j+1)=G++ [t]):=by show _=_;rw[List.take_add_one,ht,I.o];rfl
   have a0:=qh (fun W (hw:qw wr W)=>HP.o t tv W hm P (Q.stays hw));have b2:=qh P;obtain⟨d9,e0,rfl⟩:=Q.shape;unfold Ac at a0;have C:=qh (qb wr (.cells (xA t d9 e0) 28));have d:Hid (∀k,some k=(Value.slice y j z).ownBlock->w.heap.size+2<=k/\k<wr.heap.size):=fun k hk=>HR.o.lt k hk.symm;clear ht hv Q P hm hjt hj u;go_wp2_with (first
    | (go_at_call 121
       (refine (a0.o _ C.o).mono ?_);rintro e4 w1 ⟨⟨v1,rfl,B⟩,a4⟩;have N:=qh (Ab C.o a4);obtain⟨a1,c1,rfl⟩:=B.lies.shape;have U:=qh (qb w1 (.cells (xA t a1 c1) 28));have b3:Hid (LiesB (fun b=>w.heap.size+2<=b/\some b≠(Value.slice y j z).ownBlock) (w1.alloc (.cells (xA t a1 c1) 28)) (.slice (some ⟨w1.heap.size,0,none⟩) 1 1) [t]):=
        LiesB.of_one t _ 28 ⟨by have B:=O.o;have h2:=N.o.size;omega,fun e=>by have B:=(d.o _ e).2;have h2:=N.o.size;omega⟩ b2.o (B.mono fun b _ u=>⟨by have B:=O.o;have h2:=C.o.size;have h3:_<=b:=u;omega,fun e=>by have B:=(d.o _ e).2;have h2:=C.o.size;have h3:_<=b:=u;omega⟩)
       have q:=qh (Ab N.o U.o);clear B a4)
    | (at_builtin
       refine Bb _ rfl _ _ rfl (w.heap.size+2) (.slice y j z) G (by rfl) (HR.o.stays q.o) (.slice (some ⟨w1.heap.size,0,none⟩) 1 1) [t] (by rfl) b3.o (by have:=M.o;have:=HJ.o;have:=T.o;simp;omega) (Nat.le_trans O.o q.o.size) ?_;intro v7 w7 R D c9;obtain⟨e6,e7,rfl⟩:∃a c,v7=.slice a (j+1) c:=by have:=R.form;rw[List.length_append,M.o]at this;exact this
       have b4:=qh R;have b1:=qh ((V.o.trans (q.o.mono V.o.size)).trans (D.below (Nat.le_trans V.o.size q.o.size) (fun k hk e=>by have:=(d.o k e).1;omega)));have a3:=qh ((K.o.stays q.o).chg D (fun e=>by have:=(d.o _ e).1;omega));have a2:=qh ((i.o.stays q.o).chg D (fun e=>by have:=(d.o _ e).1;omega));clear R D c9))
   go_roundw
   case rel=>exact⟨j+1,_,HJ.o,by go_num,rfl,by rw[b8.o];exact b4.o,b1.o,a3.o,a2.o⟩
   case measure=>have:=HJ.o;simp[intOf];omega
  ·have b9:¬(j:Int)< (args.length:Int):=by omega
   have L:G=args:=by rw[<- I.o,show j=args.length by omega,List.take_length]
   have Y:=qh L;obtain⟨q0,q1,q2,q3,q4,q5,q6,q7,q8⟩:=i.o.nine;have y8:=i.o.free 8;have J:=i.o.set 8 (.slice y j z);have E:=Chg.setCell wr w.heap.size 8 (.slice y j z);have A:=qh (K.o.chg E (by omega));have b5:=qh ((HR.o.lies (fun b u=>u)).chg E (fun b (u:w.heap.size+2<=b) (e:b=w.heap.size)=>by omega));have X:=qh (V.o.trans (E.below V.o.size (fun k hk e=>by omega)));obtain⟨r0,r1,r2,r3,r4,r5,r6,r7,r8⟩:=TB.nine (show TB (wr.setCell ⟨w.heap.size,8,none⟩ (.slice y j z)) w.heap.size (WL o s l h g (.slice y j z)) from J);obtain⟨d0,d1,d2,d3,d4,d5,d6,d7,d8⟩:=A.o.nine;obtain⟨z0,z1,z2,z3,z4,z5,z6,z7,z8⟩:=A.o.free9;clear J E u L;go_wp2;have en:=(A.o.put9 (.int .i64 o) (.int .u64 (Sets.Aa s 0:Nat)) (.int .u64 (Sets.Aa s 1:Nat)) (.int .u64 (Sets.Aa s 2:Nat)) (.int .u64 (Sets.Aa s 3:Nat)) (.int .i64 l) (.int .i64 h) (.int .i64 g) (.slice y j z)).nine;try unfold put9 at en
   obtain⟨n0,n1,n2,n3,n4,n5,n6,n7,n8⟩:=en;try simp only[Exit.inBlock,Exit.then]
   refine bodyPost_ret (v:=.agg (WA o s l h g (.slice y j z))) (by simp[results,results121,go_sem,n0,n1,n2,n3,n4,n5,n6,n7,n8]) rfl ?_;refine⟨⟨.slice y j z,rfl,?_⟩,X.o.trans ((Av _ _ (.int .i64 o) (.int .u64 (Sets.Aa s 0:Nat)) (.int .u64 (Sets.Aa s 1:Nat)) (.int .u64 (Sets.Aa s 2:Nat)) (.int .u64 (Sets.Aa s 3:Nat)) (.int .i64 l) (.int .i64 h) (.int .i64 g) (.slice y j z)).below X.o.size (fun k hk e=>by omega))⟩;have B:=b5.o.chg (Av _ _ (.int .i64 o) (.int .u64 (Sets.Aa s 0:Nat)) (.int .u64 (Sets.Aa s 1:Nat)) (.int .u64 (Sets.Aa s 2:Nat)) (.int .u64 (Sets.Aa s 3:Nat)) (.int .i64 l) (.int .i64 h) (.int .i64 g) (.slice y j z)) (fun b (u:w.heap.size+2<=b) (e:b=w.heap.size+1)=>by omega);rw[Y.o]at B;exact B.mono (fun b _ (u:w.heap.size+2<=b)=>by omega)
theorem Zd:∀n,n<=8192->PClo n
 | 0,_=>fun e v w hs=>absurd hs (by omega)
 |n+1,hn=>fun e v w hs hf hl=>by
  obtain⟨o,s,l,h,g,args⟩:=e;exact clone_step n (Zd n (by omega)) o l h g s args v w (by unfold size at hs;omega) (by omega) hl
end ReMem
namespace ReMem
open Go Go.RowKit MatchMath
theorem ExpTopP_big (e:Re) (v:Value) (w:World) (Q:size e<=100) (h:Bf e=true) (C:bnd e=true) (P:4096<grown e) (y:Ag e) (q:Lies w v e.args):
  Calls Tryz.prog 81 #[Ac v e] w fun r w'=>r=.returned (.tuple #[.agg (ZA0),.int .i64 3])/\qw w w':=by
 have A:=Jx e h;have p:=(Ar e).2 h;have d:=qh (fun W (hw:qw w W)=>Ct e v W (by omega) y (q.stays hw));rw[p]at d;obtain⟨z,D⟩:∃z,min 1073741824 (grown e)=z:=⟨_,rfl⟩;have R:4096<z:=by omega
 have g:=qh (fun W (hw:qw w W)=>weigh_any (size e+1) e v W (Nat.lt_succ_self _) C y (q.stays hw));rw[D]at g;obtain⟨va,vc,rfl⟩:=q.shape;obtain⟨i,u,t, -⟩:=TB.two w (xL e va vc) ZL0;unfold Ac at d g ⊢;try simp only[Re.args]
 clear q y C Q h A p D P;go_enter func81,ntmps81;go_wp2_with (first
  | (go_at_call 56
     (refine (d.o _ i.o).mono ?_);rintro x w1 ⟨rfl,a⟩;have j:=qh (Ab i.o a);have n:=qh (u.o.stays a);have c:=qh (t.o.stays a);obtain⟨E,G,I,J,K,L,M,N,O⟩:=c.o.nine;clear a)
  | (go_at_call 120
     (refine (g.o _ j.o).mono ?_);rintro x w2 ⟨rfl,a⟩;have l:=qh (Ab j.o a);have b:=qh (n.o.stays a);have m:=qh (c.o.stays a);clear E G I J K L M N O;obtain⟨E,G,I,J,K,L,M,N,O⟩:=m.o.nine;obtain⟨d0,d1,d2,d3,d4,d5,d6,d7,d8⟩:=b.o.nine;obtain⟨z0,z1,z2,z3,z4,z5,z6,z7,z8⟩:=b.o.free9;clear a))
 have B:=(b.o.put9 (.int .i64 0) (.int .u64 0) (.int .u64 0) (.int .u64 0) (.int .u64 0) (.int .i64 0) (.int .i64 0) (.int .i64 0) (.slice none 0 0)).nine;try unfold put9 at B
 obtain⟨n0,n1,S,T,U,V,X,Y,n8⟩:=B;try simp only[Exit.inBlock,Exit.then]
 refine bodyPost_ret (v:=.tuple #[.agg (ZA0),.int .i64 3]) (by simp[results,results81,go_sem,n0,n1,S,T,U,V,X,Y,n8]) rfl ?_;exact⟨rfl,l.o.trans ((Av _ _ (.int .i64 0) (.int .u64 0) (.int .u64 0) (.int .u64 0) (.int .u64 0) (.int .i64 0) (.int .i64 0) (.int .i64 0) (.slice none 0 0)).below l.o.size (fun k hk e=>by omega))⟩
theorem Nw (e:Re) (v:Value) (w:World) (hs:size e<=100) (y:Bf e=true) (C:bnd e=true) (hg:grown e<=4096) (E:Ag e) (B:Lies w v e.args):
  Calls Tryz.prog 81 #[Ac v e] w fun r w'=>(∃v',r=.returned (.tuple #[Ac v' (Ae e),.int .i64 0])/\LiesB (fun b=>w.heap.size<=b) w' v' (Ae e).args/\Ag (Ae e))/\qw w w':=by
 have A:=Jx e y;have P:=(Ar e).2 y;have p:=qh (fun W (hw:qw w W)=>Ct e v W (by omega) E (B.stays hw));rw[P]at p;obtain⟨z,hz⟩:∃z,min 1073741824 (grown e)=z:=⟨_,rfl⟩;have a7:z<=4096:=by omega
 have u:=qh (fun W (hw:qw w W)=>weigh_any (size e+1) e v W (Nat.lt_succ_self _) C E (B.stays hw));rw[hz]at u;have a6:=Gh _ e A;have t:=qh (fun W (hw:qw w W)=>Su _ (size e+1) (by omega) e v W (Nat.lt_succ_self _) A E (B.stays hw));have q:=qh (fun W v (E:Ag (Ae e)) (B:Lies W v (Ae e).args)=>Zd (size (Ae e)+1) (by omega) (Ae e) v W (Nat.lt_succ_self _) E B);obtain⟨va,vc,rfl⟩:=B.shape;obtain⟨G,a5,a2, -⟩:=TB.two w (xL e va vc) ZL0;obtain⟨⟨V,h,U,T,S,m⟩,R⟩:∃tr,Ae e=tr:=⟨_,rfl⟩;rw[R]at t q ⊢;unfold Ac at p u t q ⊢;try simp only[Re.args]
 clear B E C hs y A P hz hg a6 R;go_enter func81,ntmps81;go_wp2_with (first
  | (go_at_call 56
     (refine (p.o _ G.o).mono ?_);rintro x w1 ⟨rfl,d⟩;have I:=qh (Ab G.o d);have N:=qh (a5.o.stays d);have l:=qh (a2.o.stays d);obtain⟨x0,x1,x2,x3,x4,x5,x6,x7,x8⟩:=l.o.nine;clear d)
  | (go_at_call 120
     (refine (u.o _ I.o).mono ?_);rintro x w2 ⟨rfl,d⟩;have n:=qh (Ab I.o d);have i:=qh (N.o.stays d);have M:=qh (l.o.stays d);clear x0 x1 x2 x3 x4 x5 x6 x7 x8;obtain⟨x0,x1,x2,x3,x4,x5,x6,x7,x8⟩:=M.o.nine;obtain⟨d0,d1,d2,d3,d4,d5,d6,d7,d8⟩:=i.o.nine;obtain⟨Y,z1,z2,z3,z4,z5,z6,z7,z8⟩:=i.o.free9;clear d)
  | (go_at_call 122
     (refine (t.o _ n.o).mono ?_);rintro x w3 ⟨⟨v3,rfl,X,Q⟩,d⟩;have J:=qh (Ab n.o d);have g:=qh (i.o.stays d);have L:=qh Q;have a0:=qh X;obtain⟨a3,c3,rfl⟩:∃a c,v3=.slice a m.length c:=X.lies.shape;simp only[Re.op,Re.set,Re.lo,Re.hi,Re.group,Re.args];have HD:=qh n.o.size;clear d0 d1 d2 d3 d4 d5 d6 d7 d8 Y z1 z2 z3 z4 z5 z6 z7 z8;obtain⟨d0,d1,d2,d3,d4,d5,d6,d7,d8⟩:=g.o.nine;obtain⟨Y,z1,z2,z3,z4,z5,z6,z7,z8⟩:=g.o.free9;clear d X Q)
  | (go_at_call 121
     (refine (q.o _ (.slice a3 m.length c3) L.o a0.o.lies).mono ?_);rintro x w4 ⟨⟨v4,rfl,h4⟩,d⟩;have K:=qh (Ab J.o d);have j:=qh (g.o.stays d);have a1:=qh (h4.mono (D:=fun b=>w.heap.size+2<=b) (fun b _ C=>by have h1:w3.heap.size<=b:=C;have h2:=J.o.size;have X:=g.o.lt;omega));obtain⟨O,c4,rfl⟩:∃a c,v4=.slice a m.length c:=h4.lies.shape;simp only[Re.op,Re.set,Re.lo,Re.hi,Re.group,Re.args];clear d0 d1 d2 d3 d4 d5 d6 d7 d8 Y z1 z2 z3 z4 z5 z6 z7 z8;obtain⟨d0,d1,d2,d3,d4,d5,d6,d7,d8⟩:=j.o.nine;obtain⟨Y,z1,z2,z3,z4,z5,z6,z7,z8⟩:=j.o.free9;clear d h4))
 have en:=(j.o.put9 (.int .i64 V) (.int .u64 (Sets.Aa h 0:Nat)) (.int .u64 (Sets.Aa h 1:Nat)) (.int .u64 (Sets.Aa h 2:Nat)) (.int .u64 (Sets.Aa h 3:Nat)) (.int .i64 U) (.int .i64 T) (.int .i64 S) (.slice O m.length c4)).nine;try unfold put9 at en
 obtain⟨n0,n1,n2,n3,n4,n5,n6,n7,n8⟩:=en;try simp only[Exit.inBlock,Exit.then]
 refine bodyPost_ret (v:=.tuple #[.agg (WA V h U T S (.slice O m.length c4)),.int .i64 0]) (by simp[results,results81,go_sem,n0,n1,n2,n3,n4,n5,n6,n7,n8]) rfl ?_;refine⟨⟨.slice O m.length c4,rfl,?_,L.o⟩,K.o.trans ((Av _ _ (.int .i64 V) (.int .u64 (Sets.Aa h 0:Nat)) (.int .u64 (Sets.Aa h 1:Nat)) (.int .u64 (Sets.Aa h 2:Nat)) (.int .u64 (Sets.Aa h 3:Nat)) (.int .i64 U) (.int .i64 T) (.int .i64 S) (.slice O m.length c4)).below K.o.size (fun k hk e=>by omega))⟩;exact (a1.o.chg (Av _ _ (.int .i64 V) (.int .u64 (Sets.Aa h 0:Nat)) (.int .u64 (Sets.Aa h 1:Nat)) (.int .u64 (Sets.Aa h 2:Nat)) (.int .u64 (Sets.Aa h 3:Nat)) (.int .i64 U) (.int .i64 T) (.int .i64 S) (.slice O m.length c4)) (fun b (C:w.heap.size+2<=b) (e:b=w.heap.size+1)=>by omega)).mono (fun b _ (C:w.heap.size+2<=b)=>by omega)
end ReMem
namespace ReMem
open Go Go.RowKit MatchMath
structure ID (B:Nat) (w w':World):Prop where
 below:Below B w w'
 keep:∀(k:Nat) (cur:Array Value) (T:TypeId) (fz:Nat×Nat),T≠130->T≠142->w.heap[k]? =some (Obj.cells cur T fz)->w'.heap[k]? =w.heap[k]?
theorem ID.refl (B:Nat) (w:World):ID B w w:=⟨Below.refl _ _,fun _ _ _ _ _ _ _=>rfl⟩
theorem ID.trans {B:Nat} {w a b:World} (h:ID B w a) (g:ID B a b):ID B w b:=⟨h.below.trans g.below,fun k cur T fz hT hS hk=>(g.keep k cur T fz hT hS ((h.keep k cur T fz hT hS hk).trans hk)).trans (h.keep k cur T fz hT hS hk)⟩
theorem ID.of {B:Nat} {w b:World} (a:qw w b) (c:B<=w.heap.size):ID B w b:=⟨a.mono c,fun k cur T fz _ _ hk=>a.block k (qd hk)⟩
theorem IC.id {B:Nat} {w a:World} (h:IC B w a):ID B w a:=⟨h.below,fun k cur T fz hT _ hk=>h.keep k cur T fz hT hk⟩
theorem TB.id {B:Nat} {w b:World} {g:Nat} {a:List Value} (h:TB w g a) (c:ID B w b):TB b g a:=(c.keep g _ _ _ (by decide) (by decide) h).trans h
theorem JRow.id {B:Nat} {w b:World} {base:Nat} {v:Value} {a:List Int} {m:Nat} (h:JRow w base v a m) (c:ID B w b):JRow b base v a m:=⟨h.1.keep fun k hk=>by obtain⟨cur,fz,hg⟩:=Fl h.1 k hk;exact c.keep k cur _ fz (by decide) (by decide) hg,h.2⟩
def BB (w:World) (B bb m:Nat):Prop:=∃v,w.heap[bb]? =some (.cells #[v,.bool (decide (4096<m))] 142)/\IRow w B v (min m 4096)/\B<=bb
theorem BB.over {w:World} {B c m b:Nat} (h:BB w B c m) (i:4096<m) (a:4096<b):BB w B c b:=by
 obtain⟨v,d,e,g⟩:=h;refine⟨v,?_,?_,g⟩
 · rw[d,decide_eq_true i,decide_eq_true a]
 ·rw[show min b 4096=min m 4096 by omega]
  exact e
theorem BB.stays {w d:World} {B a m:Nat} (h:BB w B a m) (c:qw w d):BB d B a m:=by
 obtain⟨v,b,e,g⟩:=h;exact⟨v,(c.block _ (qd b)).trans b,e.stays c,g⟩
theorem BB.open {w:World} {B b m:Nat} (h:BB w B b m):∃a c,w.cell? ⟨b,0,none⟩=some (.slice a (min m 4096) c)/\w.cell? ⟨b,1,none⟩=some (.bool (decide (4096<m)))/\w.frozen? ⟨b,0,none⟩=false/\w.frozen? ⟨b,1,none⟩=false/\IRow w B (.slice a (min m 4096) c) (min m 4096)/\B<=b/\b<w.heap.size/\
  w.heap[b]? =some (.cells #[.slice a (min m 4096) c,.bool (decide (4096<m))] 142):=by
 obtain⟨v,d,e,g⟩:=h;obtain⟨a,c,rfl⟩:=e.form;exact⟨a,c,by rw[qc d];rfl,by rw[qc d];rfl,by unfold World.frozen?;rw[d];simp,by unfold World.frozen?;rw[d];simp,e,g,(qd d),d⟩
theorem bb_set0 {w:World} {a:Nat} {u v x:Value} (h:w.heap[a]? =some (.cells #[u,v] 142)):(w.setCell ⟨a,0,none⟩ x).heap[a]? =some (.cells #[x,v] 142):=by
 rw[setCell_eq_setRow w a _ _ _ _ _ h,setRow_heap w a _ _ _ _ h];rfl
theorem bb_set1 {w:World} {a:Nat} {u v x:Value} (h:w.heap[a]? =some (.cells #[u,v] 142)):(w.setCell ⟨a,1,none⟩ x).heap[a]? =some (.cells #[u,x] 142):=by
 rw[setCell_eq_setRow w a _ _ _ _ _ h,setRow_heap w a _ _ _ _ h];rfl
theorem id_set {w:World} {B b:Nat} {cur:Array Value} {fz:Nat×Nat} (h:w.heap[b]? =some (.cells cur 142 fz)) (i:B<=b) (j:Nat) (u:Value):ID B w (w.setCell ⟨b,j,none⟩ u):=
 ⟨(Chg.setCell w b j u).below (by have:=(qd h);omega) (fun k a e=>by have e:k=b:=e;omega),fun k c T d l g a=>Below.heap_setCell _ _ _ _ (fun e:k=b=>by
   subst e;rw[h]at a;injection a with a;injection a with _ a _;exact g a.symm)⟩
theorem BB.inst {w:World} {B b m:Nat} (h:BB w B b m) {g c:Nat} (l:w.cell? ⟨b,0,none⟩=some (.slice (some ⟨g,0,none⟩) (min m 4096) c)) {k:Nat} (p:k<min m 4096) (j:Nat) (u:Value):BB (w.setCell ⟨g,j,none⟩ u) B b m/\ID B w (w.setCell ⟨g,j,none⟩ u):=by
 obtain⟨v,d,n,o⟩:=h;have e:v=.slice (some ⟨g,0,none⟩) (min m 4096) c:=by
  rw[qc d]at l;simpa using l
 subst e;have i:=n.spot' p;have a:=i.2.2.2.2.2 j u;exact⟨⟨_,(a.keep b _ _ _ (by decide) d).trans d,i.2.2.2.2.1 j u,o⟩,a.id⟩
theorem BB.spot {w:World} {B a m:Nat} (h:BB w B a m) {k:Nat} (e:k<min m 4096):∃g c,w.cell? ⟨a,0,none⟩=some (.slice (some ⟨g,0,none⟩) (min m 4096) c)/\(∀i,i<7->∃u,w.cell? ⟨g,k*7+i,none⟩=some u)/\(∀i,i<7->w.frozen? ⟨g,k*7+i,none⟩=false):=by
 obtain⟨v,j,b,l⟩:=h;obtain⟨g,c,rfl, -⟩:=b.spot e;have d:=b.spot' e;exact⟨g,c,by rw[qc j];rfl,d.2.2.1,d.2.2.2.1⟩
theorem step_inst {ops:Array Oper} {o:Oper} {a:Act} {K:Act->World->Prop} {Q:Exit->Act->World->Prop} {E:Prop} (w:World) (i:o.guard=none) (s x:Operand)
  (y:o.op=.call {callee:=.builtin .append,args:=#[s,x],argTypes:=#[94,94]}) (base:Nat) (v:Value) (n:Nat) (A:a.eval s=v) (z:IRow w base v n)
  (news:List Value) (hl:news.length=7) (h1:∀u∈news,u.oneCell'=true) (k:Nat) (l:w.heap.size=k) (hx:a.eval x=.slice (some ⟨k,0,none⟩) 1 1) (hn:n+1<=1099511627776) (hb:base<=k)
  (h:∀g e,IRow e base g (n+1)->IC base w e->K (a.put o.dst g) e):if Region.wanted o (yielded ops a.tmps)=true then Oper.wp Tryz.prog o a (w.alloc (.cells news.toArray 130)) K Q else E:=by
 have C:Region.wanted o (yielded ops a.tmps)=true:=by simp[Region.wanted,i]
 rw[if_pos C];obtain⟨D,hi,m,p,q⟩:=info_parts Zs;obtain⟨G,c⟩:=z;subst l;obtain⟨g,e,hr,r,t,I⟩:=Own.Gg (P:=Tryz.prog) (w.alloc (.cells news.toArray 130)) base 94 o.type 130 D _ 7 56 underlying94 hi m p q rfl (by decide) v n G (c.alloc _) ⟨w.heap.size,0,none⟩ 1 1 news (by rw[hl]) (fun j u B=>by
  have d:=heap_alloc_new w (.cells news.toArray 130);have b:(⟨w.heap.size,0,none⟩:Addr).add j=⟨w.heap.size,j,none⟩:=by unfold Addr.add;split <;> simp_all
  rw[b,qc d];simpa using B) h1 (by unfold maxLen;omega) (by omega) (by simp;omega)
 unfold Oper.wp execOp;simp only[y,resolve,invoke,builtin,Sem.run_bind,Sem.run_pure,Result.andThen_ok,List.map_toArray,List.map_cons,List.map_nil,A,hx,hr];exact h g e ⟨_,r⟩ ((IC.of (qb w _) hb).trans (IC.chg (Chg.grown t) (by simp;omega) (fun k l=>row_noint (c.alloc _) k l)))
def AddRes (w:World) (B bb m:Nat) (r:Ending) (w':World):Prop:=(∃k:Nat,r=.returned (.int .i64 k)/\k<min (m+1) 4096)/\BB w' B bb (m+1)/\ID B w w'
theorem addB_full (B i m:Nat) (z A C:Int) (D E G I:Int) (w:World) (h:BB w B i m) (y:4096<=m):
  Calls Tryz.prog 83 #[.pointer (some ⟨i,0,none⟩),.agg #[.int .i64 z,.int .u64 D,.int .u64 E,.int .u64 G,.int .u64 I,.int .i64 A,.int .i64 C]] w (AddRes w B i m):=by
 have d:=qb w (.cells #[.int .i64 z,.int .u64 D,.int .u64 E,.int .u64 G,.int .u64 I,.int .i64 A,.int .i64 C] 130);have t:=h.stays d;obtain⟨a,c,c0,c1,O,P,hi,u,p,x⟩:=t.open;have l:=qh d;have HG:=qh x;have n:=qh hi;have g:=qh u;have r:=qh y;have j:Hid (B<=w.heap.size):=by
  show _<=_;obtain⟨v,b,L,M⟩:=h;have:=(qd b);omega
 rw[show min m 4096=4096 by omega]at c0 HG n;clear h t d hi u p x y;go_enter func83,ntmps83;go_wp2;go_ret;refine⟨⟨0,rfl,by omega⟩,⟨.slice a 4096 c,(bb_set1 HG.o).trans (by rw[decide_eq_true (show 4096<m+1 by have:=r.o;omega)]),?_,g.o⟩,(ID.of l.o j.o).trans (id_set HG.o g.o _ _)⟩
 ·rw[show min (m+1) 4096=4096 by have:=r.o;omega]
  refine n.o.chg (Chg.setCell _ i 1 _) (fun k J e=>?_);obtain⟨N,q⟩:=n.o;obtain⟨c1,K,b⟩:=Fl q k J;rw[show k=i from e,HG.o]at b;injection b with b;injection b with _ b _;exact absurd b (by decide)
theorem addB_room (B i m:Nat) (y z A:Int) (C D E G:Int) (w:World) (h:BB w B i m) (hm:m<4096):
  Calls Tryz.prog 83 #[.pointer (some ⟨i,0,none⟩),.agg #[.int .i64 y,.int .u64 C,.int .u64 D,.int .u64 E,.int .u64 G,.int .i64 z,.int .i64 A]] w (AddRes w B i m):=by
 have u:=qb w (.cells #[.int .i64 y,.int .u64 C,.int .u64 D,.int .u64 E,.int .u64 G,.int .i64 z,.int .i64 A] 130);have b:=heap_alloc_new w (.cells #[.int .i64 y,.int .u64 C,.int .u64 D,.int .u64 E,.int .u64 G,.int .i64 z,.int .i64 A] 130);have t:=h.stays u;obtain⟨a,c,c0,c1,z0,z1,hi,Y,U,hg⟩:=t.open;have p:=qh u;have HG:=qh hg;have X:=qh hi;have I:=qh Y;have L:=qh hm;have a0:(m:Int)<4096:=by omega
 have n:Hid (B<=w.heap.size):=by
  show _<=_;obtain⟨v,l,g2,g3⟩:=h;have:=(qd l);omega
 rw[show min m 4096=m by omega]at c0 HG X;clear h t hi Y U hg hm;go_enter func83,ntmps83;go_wp2;generalize w.alloc (.cells #[.int .i64 y,.int .u64 C,.int .u64 D,.int .u64 E,.int .u64 G,.int .i64 z,.int .i64 A] 130)=wq at*;have x0:wq.cell? ⟨w.heap.size,0,none⟩=some (.int .i64 y):=by rw[qc b];rfl
 have x1:wq.cell? ⟨w.heap.size,1,none⟩=some (.int .u64 C):=by rw[qc b];rfl
 have x2:wq.cell? ⟨w.heap.size,2,none⟩=some (.int .u64 D):=by rw[qc b];rfl
 have x3:wq.cell? ⟨w.heap.size,3,none⟩=some (.int .u64 E):=by rw[qc b];rfl
 have x4:wq.cell? ⟨w.heap.size,4,none⟩=some (.int .u64 G):=by rw[qc b];rfl
 have x5:wq.cell? ⟨w.heap.size,5,none⟩=some (.int .i64 z):=by rw[qc b];rfl
 have x6:wq.cell? ⟨w.heap.size,6,none⟩=some (.int .i64 A):=by rw[qc b];rfl
 have r:=qh (fun W (hw:qw wq W)=>upc hw c0);clear b u c0 c1 z0 z1;refine HeldTail.enter (S:=fun w'=>w'.cell? ⟨i,0,none⟩=some (.slice a m c)) 8 (by kernel_rfl) (by kernel_rfl) (r.o _ ((Below.refl _ wq).drew)) (fun g=>?_);refine HeldTail.HG.take 0 (v:=?_) rfl (by kernel_rfl) (by rfl) (by kernel_rfl) (by kernel_rfl) (fun _ _ _ h=>h) (Or.inl ⟨by rfl,?_⟩) (by assumption) ?_;rotate_left
 ·intro w d
  try dsimp only at d
  go_simp;try with_reducible rfl
 try simp only[Act.put,yT,y9,yS]
 refine HeldTail.HG.take 1 (v:=?_) rfl (by kernel_rfl) (by rfl) (by kernel_rfl) (by kernel_rfl) (fun _ _ _ h=>h) (Or.inl ⟨by rfl,?_⟩) (by assumption) ?_;rotate_left
 ·intro w d
  try dsimp only at d
  go_simp;try with_reducible rfl
 try simp only[Act.put,yT,y9,yS]
 refine HeldTail.HG.take 2 (v:=?_) rfl (by kernel_rfl) (by rfl) (by kernel_rfl) (by kernel_rfl) (fun _ _ _ h=>h) (Or.inl ⟨by rfl,?_⟩) (by assumption) ?_;rotate_left
 ·intro w d
  try dsimp only at d
  go_simp;try with_reducible rfl
 try simp only[Act.put,yT,y9,yS]
 refine HeldTail.HG.take 3 (v:=?_) rfl (by kernel_rfl) (by rfl) (by kernel_rfl) (by kernel_rfl) (fun _ _ _ h=>h) (Or.inl ⟨by rfl,?_⟩) (by assumption) ?_;rotate_left
 ·intro w d
  try dsimp only at d
  go_simp;try with_reducible rfl
 try simp only[Act.put,yT,y9,yS]
 refine HeldTail.HG.take 4 (v:=?_) rfl (by kernel_rfl) (by rfl) (by kernel_rfl) (by kernel_rfl) (fun _ _ _ h=>h) (Or.inl ⟨by rfl,?_⟩) (by assumption) ?_;rotate_left
 ·intro w d
  try dsimp only at d
  go_simp;try with_reducible rfl
 try simp only[Act.put,yT,y9,yS]
 refine HeldTail.HG.go 5 rfl (by rfl) (by kernel_rfl) ?_;intro K5 Q;go_simp;refine Q.out _ _ (r.o _ ((Below.refl _ wq).drew)) (fun g=>?_);try simp only[Act.put,yT,y9,yS]
 refine HeldTail.HG.go 6 rfl (by rfl) (by kernel_rfl) ?_;intro K6 R;go_simp;have N:=qh (((Below.refl wq.heap.size wq).drew).alloc ql (.cells #[.int .i64 y,.int .u64 C,.int .u64 D,.int .u64 E,.int .u64 G,.int .i64 z,.int .i64 A] 130));refine R.out _ _ (r.o _ N.o) (fun g=>?_);try simp only[Act.put,yT,y9,yS]
 refine HeldTail.HG.go 7 rfl (by rfl) (by kernel_rfl) ?_;intro K7 T;refine step_inst _ (by rfl) _ _ (by rfl) B (.slice a m c) m (by rfl) (X.o.stays (Below.refl _ wq).drew) [.int .i64 y,.int .u64 C,.int .u64 D,.int .u64 E,.int .u64 G,.int .i64 z,.int .i64 A] rfl (by simp[Value.oneCell']) _ rfl (by rfl) (by have:=L.o;omega) (by have t:=n.o;have h2:=p.o.size;show B<=wq.heap.size;omega) ?_;intro v7 M P x;have J:=qh P;have j:M.heap[i]? =some (.cells #[.slice a m c,.bool (decide (4096<m))] 142):=by
  have t:wq.drew.heap[i]? =_:=HG.o;exact (x.keep i _ _ _ (by decide) t).trans t
 have q:=qh j;have c0:M.cell? ⟨i,0,none⟩=some (.slice a m c):=by rw[qc j];rfl
 have z0:M.frozen? ⟨i,0,none⟩=false:=by unfold World.frozen?;rw[j];simp
 have K:=qh ((ID.of p.o n.o).trans ((ID.of (Below.refl _ wq).drew (by have t:=n.o;have h2:=p.o.size;omega)).trans x.id));obtain⟨O,c7,rfl⟩:=P.form;clear P x j;refine T.out _ _ c0 (fun g=>?_);try simp only[Act.put,yT,y9,yS]
 refine HeldTail.HG.done (by kernel_rfl) ?_;simp only[List.drop_succ_cons,List.drop_zero];have c9:(M.setCell ⟨i,0,none⟩ (.slice O (m+1) c7)).cell? ⟨i,0,none⟩=some (.slice O (m+1) c7):=Aq c0;go_wp2;go_ret;refine⟨⟨m,by simp,by have:=L.o;omega⟩,⟨.slice O (m+1) c7,(bb_set0 q.o).trans (by rw[decide_eq_false (show ¬4096<m by have:=L.o;omega),decide_eq_false (show ¬4096<m+1 by have:=L.o;omega)]),?_,I.o⟩,K.o.trans (id_set q.o I.o _ _)⟩
 ·rw[show min (m+1) 4096=m+1 by have:=L.o;omega]
  refine J.o.chg (Chg.setCell _ i 0 _) (fun k hk e=>?_);obtain⟨xs,V⟩:=J.o;obtain⟨c1,f1,l⟩:=Fl V k hk;rw[show k=i from e,q.o]at l;injection l with l;injection l with _ l _;exact absurd l (by decide)
theorem Cy (B a m:Nat) (b c d:Int) (e g i j:Int) (w:World) (h:BB w B a m):
  Calls Tryz.prog 83 #[.pointer (some ⟨a,0,none⟩),.agg #[.int .i64 b,.int .u64 e,.int .u64 g,.int .u64 i,.int .u64 j,.int .i64 c,.int .i64 d]] w (AddRes w B a m):=by
 by_cases hm:4096<=m
 · exact addB_full B a m b c d e g i j w h hm
 · exact addB_room B a m b c d e g i j w h (by omega)
theorem Ci (B i m:Nat) (w:World) (h:BB w B i m):
  Calls Tryz.prog 164 #[.pointer (some ⟨i,0,none⟩)] w (AddRes w B i m):=by
 have d:=qh (fun C D E G z A=>Cy B i m 2 z A C D E G w h);clear h;go_enter func164,ntmps164;go_wp2_with (first
  | (go_at_call 83
     (refine (d.o 0 0 0 0 0 0).mono ?_);rintro J L ⟨⟨k,rfl,j⟩,b,a⟩;have l:=qh b;have q:=qh j;have e:=qh a;obtain⟨g,c,c0,u,x⟩:=b.spot j;have n:=qh c0;obtain⟨K,c5⟩:=u 5 (by omega);have M:=x 5 (by omega);obtain⟨N,p⟩:∃N,min (m+1) 4096=N:=⟨_,rfl⟩;have I:=qh p;rw[p]at c0 j;have y:(k:Int)< (N:Int):=by omega
     have t:(k:Int)<=4096:=by omega
     clear b j a u x p))
 go_ret;have r:=l.o.inst n.o q.o (k*7+5) (.int .i64 ((k:Int)+1));exact⟨⟨k,rfl,q.o⟩,r.1,e.o.trans r.2⟩
end ReMem
namespace ReMem
open Go Go.RowKit MatchMath
def PTree (k:Nat) (w0:World) (bb N:Nat):Prop:=∀(t:Re) (tv:Value) (m:Nat) (w:World),size t<N->gok k t=true->Ag t->Lies w0 tv t.args->qw w0 w->BB w w0.heap.size bb m->m+3*size t<=1048576->
 Calls Tryz.prog 82 #[.pointer (some ⟨bb,0,none⟩),Ac tv t] w fun r w'=>r=.returned (.tuple #[])/\BB w' w0.heap.size bb (m+Ah t)/\ID w0.heap.size w w'
theorem BB.jumps {w j:World} {B l b m:Nat} {i:Value} {q:List Int} {n:Nat} (h:BB w B b m) (g:JRow w l i q n) (d:Chg (fun k=>some k=i.ownBlock) w j):BB j B b m:=by
 obtain⟨v,c,o,p⟩:=h;refine⟨v,(d.block b (qd c) (fun e=>?_)).trans c,o.jumps g d,p⟩;obtain⟨c1,r,a⟩:=Fl g.1 b e.symm;rw[c]at a;injection a with a;injection a with _ a _;exact absurd a (by decide)
theorem id_jumps {B:Nat} {a w i:World} {v:Value} {p:List Int} {m:Nat} (h:ID B a w) (g:JRow w a.heap.size v p m) (l:B<=a.heap.size) (d:Chg (fun k=>some k=v.ownBlock) w i):ID B a i:=
 ⟨h.below.trans (d.below (Nat.le_trans l h.below.size) (fun k c e=>by have:=(g.1.lt k e.symm).1;omega)),fun k b T fz o n c=>by
  have j:=(qd c);rw[d.block k (Nat.lt_of_lt_of_le j h.below.size) (fun e=>by have:=(g.1.lt k e.symm).1;omega)];exact h.keep k b T fz o n c⟩
theorem altB_any (k:Nat) (p:World) (R N:Nat) (hp:PTree k p R N) (args:List Re) (av:Value) (m:Nat) (w:World) (D:2<=args.length) (g0:∀t∈args,size t<N) (a7:gokL k args=true) (hl:Lies p av args) (hb:qw p w) (hi:BB w p.heap.size R m) (hm:m+3*(sizes args+1)<=1048576):
  Calls Tryz.prog 123 #[.pointer (some ⟨R,0,none⟩),av] w fun r w'=>r=.returned (.tuple #[])/\BB w' p.heap.size R (m+Ak args+2*(args.length-1))/\ID p.heap.size w w':=by
 obtain⟨aa,ac,vs,rfl,⟨i4,i2⟩,ho⟩:=hl.opened;obtain⟨A,hA⟩:∃A,args.length=A+1:=⟨args.length-1,by omega⟩;have HO:=qh ho;have a0:=qh hA;have g2:Hid (1<=A):=by show _<=_;omega
 have g5:=qh a7;have HP:=qh (fun t tv n W (ht:t∈args)=>hp t tv n W (g0 t ht) (Bk a7 ht));have f1:=qh (Ji k args a7);have HB:=qh hb;have HI:=qh hi;have HM:=qh hm;have e5:=qh (fun m W (h:BB W p.heap.size R m)=>Cy p.heap.size R m 3 0 0 0 0 0 0 W h);have f2:=qh (fun m W (h:BB W p.heap.size R m)=>Ci p.heap.size R m W h);have i5:=Bc args;have j1:(A:Int)<=1048576:=by omega
 have g3:Hid (A<=1048576):=by show _<=_;omega
 rw[show args.length-1=A by omega];rw[hA];clear hl ho hp g0 a7 hb hi hm i5 D hA i4 i2;go_enter func123,ntmps123;go_wp2
 go_loopw [4,12] (fun jv ix wr=>∃(q u:Nat) (js:List Int) (jv':Value),q<=A/\ix=.int .i64 q/\jv'=jv/\Hid (u=m+Ak (args.take q)+2*q)/\BB wr p.heap.size R u/\JRow wr w.heap.size jv' js (min u 4096)/\Hid (js.length=q)/\ID p.heap.size w wr) (fun _ ix _=>A+1-(intOf ix).toNat)
 case atStart=>exact⟨0,m,[],_,Nat.zero_le _,rfl,rfl,(by show _=_;simp[Ak]),HI.o,JRow.nil _ _ _,rfl,ID.refl _ _⟩
 case round=>
  obtain⟨q,u,js,jv,hq,rfl,rfl,HU,C,l,J,d⟩:=hrel;have a5:=qh C;have b6:=qh l;have O:=qh d;have j0:Hid (u+2<=2097152):=by show _<=_;have K:=HU.out;have D:=Fd args q;have h3:=f1.o;have h4:=HM.o;have h5:=a0.o;omega
  have e6:Hid (qw p wr):=HB.o.trans d.below;have b8:Hid (w.heap.size<=wr.heap.size):=d.below.size;have M:=qh HB.o.size;obtain⟨ja,jc,rfl⟩:∃a c,jv=.slice a q c:=by have:=l.form;rwa [J.out]at this
  have i6:(q:Int)< (A:Int)+1:=by omega
  have e3:q<args.length:=by have:=a0.o;omega
  obtain⟨t,tv,b,off,ht,hv,e1,⟨x0,x1,x2,x3,x4,x5,x6,x7,x8⟩,e2,e0,hm⟩:=(HO.o.stays e6.o).at e3;subst e1;have T:=HO.o.sub q t tv ht hv;have b7:=qh (fun W n (hw:qw p W) (hi:BB W p.heap.size R n) (hn:n+3*size t<=1048576)=>HP.o t tv n W hm e0 T hw hi hn);obtain⟨X,Y,rfl⟩:=e2.shape;unfold Ac at b7;have Q:=qh (Bv k args g5.o q t ht);have a1:=qh (qb wr (.cells (xA t X Y) 28));have f3:Hid (TB (wr.alloc (.cells (xA t X Y) 28)) wr.heap.size (xL t X Y)):=TB.new wr (xL t X Y);have x:Hid (ID p.heap.size w (wr.alloc (.cells (xA t X Y) 28))):=d.trans (ID.of a1.o (Nat.le_trans M.o b8.o));have b2:=qh (C.stays a1.o);have b5:=qh (l.id (ID.of (B:=p.heap.size) a1.o (Nat.le_trans M.o b8.o)));by_cases hqt:q<A
  ·have j3:((q:Int)==(A:Int))=false:=beq_eq_false_iff_ne.2 (by omega)
   have i8:¬(q:Int)=(A:Int):=by omega
   have f9:¬q=A:=by omega
   have i9:(q==A)=false:=beq_eq_false_iff_ne.2 f9;have HQ:=qh hqt;have a6:=qh (Ck ht);have h9:=qh (Fd args (q+1));obtain⟨u2,V⟩:∃y,u+1+Ah t=y:=⟨_,rfl⟩;have E:=qh V;have i7:Hid (u2+1<=2097152):=by show _<=_;have K:=HU.out;have D:=a6.o;have h3:=f1.o;have h4:=HM.o;have h5:=a0.o;have h6:=h9.o;omega
   have P:Hid (u+1+3*size t<=1048576):=by show _<=_;have K:=HU.out;have h3:=Q.o;have h4:=HM.o;omega
   clear C l d e3 e2 e0 hm ht hv T V hq hqt
   go_upto_region 9 with (first
    | (go_at_call 164
       (refine (f2.o u _ b2.o).mono ?_);rintro c9 w1 ⟨⟨kk,rfl,f6⟩,f4,I⟩;have g9:=qh f6;have g6:=qh f4;have g4:=qh I;have i0:=qh (f3.o.id I);have e7:=qh ((HB.o.trans x.o.below).trans I.below);clear x0 x1 x2 x3 x4 x5 x6 x7 x8;obtain⟨x0,x1,x2,x3,x4,x5,x6,x7,x8⟩:=i0.o.nine;clear f4 I f6)
    | (go_at_call 82
       (refine (b7.o _ (u+1) e7.o g6.o P.o).mono ?_);rintro c9 w2 ⟨rfl,D,L⟩;rw[E.o]at D;have a3:=qh D;have a2:=qh (g4.o.trans L);clear D L x0 x1 x2 x3 x4 x5 x6 x7 x8)
    | (go_at_call 83
       (refine (e5.o u2 _ a3.o).mono ?_);rintro c9 w3 ⟨⟨k2,rfl,f7⟩,f5,b0⟩;have g7:=qh f5;have h0:=qh f7;have b1:=qh (a2.o.trans b0);have b4:=qh ((b5.o.id b1.o).up (show min u 4096<=min (u2+1) 4096 by have:=E.o;omega));have i1:Hid (w.heap.size<=w3.heap.size):=Nat.le_trans x.o.below.size b1.o.below.size;clear f5 b0 f7)
    | (at_builtin
       refine Xw _ rfl _ _ rfl w.heap.size (.slice ja q jc) js (min (u2+1) 4096) (by rfl) b4.o i1.o (k2:Int) (min (u2+1) 4096) ql ⟨by omega,by have:=h0.o;omega⟩ _ rfl (by rfl) (by have K:=J.out;have D:=HQ.o;have h3:=g3.o;omega) ?_;intro v4 w4 h4 d9;have g8:=qh h4;have e9:=qh (g7.o.jumps b4.o d9);have e8:=qh (id_jumps (x.o.trans b1.o) b4.o M.o d9);obtain⟨a4,c4,rfl⟩:∃a c,v4=.slice a (q+1) c:=by have:=h4.form;rw[List.length_append,J.out]at this;exact this
       clear h4 d9))
   have a8:kk<min (u2+1) 4096:=by have K:=g9.o;have D:=E.o;omega
   have h7:=qh a8;obtain⟨g,c,y0,hx,hz⟩:=e9.o.spot a8;have b9:=qh y0;obtain⟨s6,c6⟩:=hx 6 (by omega);have z6:=hz 6 (by omega);obtain⟨N2,G⟩:∃y,min (u2+1) 4096=y:=⟨_,rfl⟩;have h8:=qh G;rw[G]at y0 a8;have j2:(kk:Int)< (N2:Int):=by omega
   have f8:(N2:Int)<=4096:=by omega
   clear hx hz G a8
   go_still_tail 12,(by kernel_rfl)
   change wpList _ _ _ _ _ w4.drew;go_wp2;go_roundw
   case rel=>
    have h6:=(e9.o.stays (Below.refl _ w4).drew).inst (g:=g) (c:=c) b9.o h7.o (kk*7+6) (.int .i64 (N2:Int));have S:ID p.heap.size w4 w4.drew:=ID.of (Below.refl _ w4).drew (by have K:=M.o;have D:=e8.o.below.size;omega);exact⟨q+1,u2+1,js++ [(k2:Int)],_,HQ.o,by go_num,rfl,(by show _=_;have K:=HU.out;have D:=a6.o;have h3:=E.o;omega),h6.1,g8.o.id (S.trans h6.2),(by show _=_;simp[J.out]),e8.o.trans (S.trans h6.2)⟩
   case measure=>have:=HQ.o;simp[intOf];omega
  ·obtain rfl:A=q:=by omega
   have a6:Hid (Ak args=Ak (args.take A)+Ah t):=by
    have K:=Ck ht;rw[List.take_of_length_le (by have:=a0.o;omega)]at K;exact K
   have P:Hid (u+3*size t<=1048576):=by show _<=_;have K:=HU.out;have h3:=Q.o;have h4:=HM.o;omega
   obtain⟨U,V⟩:∃y,u+Ah t=y:=⟨_,rfl⟩;have E:=qh V;clear C l d e3 e2 e0 hm ht hv T V hq hqt
   go_upto_region 11 with (first
    | (go_at_call 82
       (refine (b7.o _ u (HB.o.trans x.o.below) b2.o P.o).mono ?_);rintro c9 w2 ⟨rfl,D,L⟩;rw[E.o]at D;have a3:=qh D;have a2:=qh (x.o.trans L);have b3:=qh ((b5.o.id L).up (show min u 4096<=min U 4096 by have:=E.o;omega));clear D L x0 x1 x2 x3 x4 x5 x6 x7 x8))
   obtain⟨jg,j5,zz,ej, -, -⟩:=b3.o.at (j:=0) (by have K:=J.out;have D:=g2.o;omega);injection ej with ej1 ej2 ej3;subst ej1 ej3;have a9:Hid (JRow w2 w.heap.size (.slice (some ⟨jg,0,none⟩) A jc) js (min U 4096)):=b3.o;clear ej2 i6;go_wp2
   go_loopw [51] (fun ix e4=>∃i:Nat,i<=A/\ix=.int .i64 i/\BB e4 p.heap.size R U/\JRow e4 w.heap.size (.slice (some ⟨jg,0,none⟩) A jc) js (min U 4096)/\ID p.heap.size w e4) (fun ix _=>A-(intOf ix).toNat)
   case atStart=>exact⟨0,Nat.zero_le _,rfl,a3.o,a9.o,a2.o⟩
   case round=>
    clear a3 b3 a9 a2 a5 b6 O b8 e6 a1 f3 x b2 b5;obtain⟨i,hi,rfl,C,l,d⟩:=hrel;have a5:=qh C;have b6:=qh l;have O:=qh d;by_cases hit:i<A
    ·have i3:(i:Int)< (A:Int):=by omega
     have f0:=qh hit;obtain⟨z,hz,cz⟩:=l.at' J.out hit;have HZ:=qh hz;obtain⟨g,c,y0,hx,g1⟩:=C.spot hz;have b9:=qh y0;obtain⟨s5,c5⟩:=hx 5 (by omega);have z5:=g1 5 (by omega);obtain⟨N2,G⟩:∃y,min U 4096=y:=⟨_,rfl⟩;have h8:=qh G;rw[G]at y0 hz;have j4:(z:Int)< (N2:Int):=by omega
     have f8:(N2:Int)<=4096:=by omega
     clear hx g1 C l d hi hit hz G
     go_upto_region 14 with fail
     go_still_tail 12,(by kernel_rfl)
     change wpList _ _ _ _ _ wr.drew;go_wp2;go_roundw
     case rel=>
        have h6:=(a5.o.stays (Below.refl _ wr).drew).inst (g:=g) (c:=c) b9.o HZ.o (z*7+5) (.int .i64 (N2:Int));have S:ID p.heap.size wr wr.drew:=ID.of (Below.refl _ wr).drew (by have K:=M.o;have D:=O.o.below.size;omega);exact⟨i+1,f0.o,by go_num,h6.1,b6.o.id (S.trans h6.2),O.o.trans (S.trans h6.2)⟩
     case measure=>have:=f0.o;simp[intOf];omega
    ·have i3:¬(i:Int)< (A:Int):=by omega
     clear C l d hi hit;go_wp2;go_end0;refine⟨rfl,?_,O.o⟩;have e:m+Ak args+2*A=U:=by have K:=HU.out;have D:=a6.o;have h3:=E.o;omega
     rw[e];exact a5.o
end ReMem
end Go.Proofs.YtjefcpjciogcjaaGreatDoor
