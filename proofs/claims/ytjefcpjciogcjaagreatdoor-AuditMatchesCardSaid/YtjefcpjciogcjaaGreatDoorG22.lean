/- Lemmas for the walk of the law, in 2 parts. No condition beyond what each states. -/
import Derived.Test.YtjefcpjciogcjaaGreatDoorG21
namespace Go.Proofs.YtjefcpjciogcjaaGreatDoor
set_option maxRecDepth 100000
set_option linter.unusedVariables false
set_option maxHeartbeats 16000000
open Tryz
namespace ReMem
open Go Go.RowKit MatchMath
theorem rep_lo {m q j:Nat} (x y:Re) (a:j<m):(List.replicate m x++List.replicate q y)[j]? =some x:=by
 rw[List.getElem?_append_left (by simpa using a),List.getElem?_replicate,if_pos a]
theorem rep_hi {m q j:Nat} (x y:Re) (a:m<=j) (b:j<m+q):(List.replicate m x++List.replicate q y)[j]? =some y:=by
 rw[List.getElem?_append_right (by simpa using a),List.getElem?_replicate,List.length_replicate,if_pos (by omega)]
theorem TRow.set3 {D:Nat->Prop} {base:Nat} {w:World} {v:Value} {l:List Re} (h:TRow D w base v l) {g k:Nat} {u:Value} (x:g<base) (i:∀b,D b->¬b=g):TRow D (w.setCell ⟨g,k,none⟩ u) base v l:=by
 obtain⟨r,p,hr,n,q⟩:=h;have a:=Chg.setCell w g k u;exact⟨r,p,Row.chg hr a (fun k o e=>by have:=(hr.lt k o).1;omega),n,fun j t u c d=>(q j t u c d).chg a (fun b m e=>i b m.1 e)⟩
theorem Xa (B:Nat->Prop) (x:Re) (v:Value) (lo:Int) (w:World) (h:Ag x) (a:LiesB B w v x.args) (g:∀b,w.heap.size<=b->B b):
  Calls Tryz.prog 142 #[Ac v x,.int .i64 lo,.int .i64 0] w fun r w'=>(∃v',r=.returned (Ac v' (Re.mk 1 noP 0 0 0 []))/\LiesB B w' v' (Re.mk 1 noP 0 0 0 []).args)/\qw w w':=by
 obtain⟨c,d,rfl⟩:=a.lies.shape;have C:=qh a;have A:=qh h;have i:=qh g;have j:=Aj 0;have l:=Aj 1;have m:=Aj 2;have n:=Aj 3;unfold Ac;clear a h g;go_enter func142,ntmps142;go_wp2;have e:=((by have:=TB.new (w.alloc (.cells (xA x c d) 28)) (ZL 1 0 0 0 (.slice none 0 0));rw[show (w.alloc (.cells (xA x c d) 28)).heap.size=w.heap.size+1 from by simp]at this;exact this:TB ((w.alloc (.cells (xA x c d) 28)).alloc (.cells (ZA 1 0 0 0 (.slice none 0 0)) 28)) (w.heap.size+1) (ZL 1 0 0 0 (.slice none 0 0)))).nine;try unfold put9 at e
 obtain⟨n0,n1,o,p,q,t,u,y,z⟩:=e;try simp only[Exit.inBlock,Exit.then]
 refine bodyPost_ret (v:=.agg (ZA 1 0 0 0 (.slice none 0 0))) (by simp[results,results142,go_sem,n0,n1,o,p,q,t,u,y,z]) rfl ?_;refine⟨⟨.slice none 0 0,?_,LiesB.nil _ _⟩,(qb w _).alloc (by simp) _⟩;show _=Ending.returned (.agg #[.int .i64 1,.int .u64 (Sets.Aa noP 0:Nat),.int .u64 (Sets.Aa noP 1:Nat),.int .u64 (Sets.Aa noP 2:Nat),.int .u64 (Sets.Aa noP 3:Nat),.int .i64 0,.int .i64 0,.int .i64 0,_]);rw[j,l,m,n];rfl
theorem Wy (B:Nat->Prop) (x:Re) (v:Value) (w:World) (h:Ag x) (d:LiesB B w v x.args) (g:∀b,w.heap.size<=b->B b):
  Calls Tryz.prog 142 #[Ac v x,.int .i64 1,.int .i64 1] w fun r w'=>(∃v',r=.returned (Ac v' (x))/\LiesB B w' v' (x).args)/\qw w w':=by
 obtain⟨a,c,rfl⟩:=d.lies.shape;have j:=qh d;have y:=qh h;have i:=qh g;have z:=Aj 0;have A:=Aj 1;have C:=Aj 2;have D:=Aj 3;unfold Ac;clear d h g;go_enter func142,ntmps142;go_wp2;have e:=((by have:=TB.new (w.alloc (.cells (xA x a c) 28)) (xL x a c);rw[show (w.alloc (.cells (xA x a c) 28)).heap.size=w.heap.size+1 from by simp]at this;exact this:TB ((w.alloc (.cells (xA x a c) 28)).alloc (.cells (xA x a c) 28)) (w.heap.size+1) (xL x a c))).nine;try unfold put9 at e
 obtain⟨n0,n1,l,m,n,p,q,t,u⟩:=e;try simp only[Exit.inBlock,Exit.then]
 refine bodyPost_ret (v:=.agg (xA x a c)) (by simp[results,results142,go_sem,n0,n1,l,m,n,p,q,t,u]) rfl ?_;exact⟨⟨_,rfl,j.o.stays ((qb w _).alloc (by simp) _)⟩,(qb w _).alloc (by simp) _⟩
theorem Wz (B:Nat->Prop) (x:Re) (v:Value) (m:Nat) (hm:1<=m) (a7:m<=63) (M:List Re) (W:M=List.replicate m x++ [repT x 1 (-1)]) (w:World) (hf:Ag x) (hl:LiesB B w v x.args) (hB:∀b,w.heap.size<=b->B b):
  Calls Tryz.prog 142 #[Ac v x,.int .i64 ((m:Int)+1),.int .i64 (-1)] w fun r w'=>(∃v',r=.returned (Ac v' (Re.mk 3 noP 0 0 0 M))/\LiesB B w' v' (Re.mk 3 noP 0 0 0 M).args)/\qw w w':=by
 obtain⟨T,U,rfl⟩:=hl.lies.shape;have HL:=qh hl;have HF:=qh hf;have V:=qh hB;have e0:=Aj 0;have e1:=Aj 1;have e2:=Aj 2;have e3:=Aj 3;unfold Ac;clear hl hf hB;have Y:Hid (M.length=m+1):=by show _=_;rw[W];simp
 have b2:Hid (∀j,j<m->M[j]? =some x):=fun j hj=>by rw[W,List.getElem?_append_left (by simpa using hj)];simp[hj]
 have b5:Hid (M[m]? =some (repT x 1 (-1))):=by show _=_;rw[W,List.getElem?_append_right (by simp)];simp
 have b0:((m:Int)+1==0)=false:=beq_eq_false_iff_ne.2 (by omega);have b1:((m:Int)+1==1)=false:=beq_eq_false_iff_ne.2 (by omega);have b3:¬(m:Int)+1=1:=by omega
 have b4:¬(m:Int)=0:=by omega
 have b6:(m:Int)<=63:=by omega
 have b7:IntKind.i64.wrap (m:Int)=(m:Int):=IntWalk.i64_in _ (by omega);have b8:=qh a7;clear hm a7 W;obtain⟨a9,d9,c9,b9, -⟩:=TB.three w (xL x T U) ZL0 (ZL 3 0 0 0 (.slice none 0 0));go_enter func142,ntmps142;go_wp2
 go_loopw [8] (fun ix wr=>∃(j:Nat) (X:Value),j<=m+1/\ix=.int .i64 j/\TB wr (w.heap.size+1+1) (ZL 3 0 0 0 X)/\TRow (fun b=>B b/\(b<w.heap.size\/w.heap.size+3<=b)) wr (w.heap.size+3) X (M.take j)/\qw w wr/\TB wr (w.heap.size+1) (ZL0)/\TB wr w.heap.size (xL x T U)) (fun ix _=>m+1-(intOf ix).toNat)
 case atStart=>exact⟨0,_,Nat.zero_le _,rfl,d9.o,TRow.nil _ _ _,a9.o,c9.o,b9.o⟩
 case round=>
  obtain⟨j,X,hj,rfl,t,l,q,Q,L⟩:=hrel;obtain⟨R,E⟩:∃y,M.take j=y:=⟨_,rfl⟩;have A:=qh E;rw[E]at l;have K:Hid (R.length=j):=by show _=_;have:=Y.o;rw[<- E,List.length_take];omega
  have HR:=qh l;have J:=qh q;have D:=qh t;have i:=qh Q;have C:=qh L;obtain⟨G,I,rfl⟩:∃a c,X=.slice a j c:=by have:=l.form;rwa [K.o]at this
  obtain⟨y0,y1,y2,y3,y4,y5,y6,y7,y8⟩:=t.nine;have z8:=t.free 8;obtain⟨x0,x1,x2,x3,x4,x5,x6,x7,x8⟩:=L.nine;have p:Hid (w.heap.size+3<=wr.heap.size):=by show _<=_;have:=t.lt;omega
  have d:Hid (∀k,some k=(Value.slice G j I).ownBlock->w.heap.size+3<=k/\k<wr.heap.size):=fun k hk=>HR.o.lt k hk.symm;clear l E Q q t L;by_cases hjt:j<m+1
  ·have e5:(j:Int)< (m:Int)+1:=by omega
   have HJ:Hid (j<m+1/\m<=63):=⟨hjt,b8.o⟩;by_cases hjm:j=m
   ·have e4:((j:Int)==(m:Int))=true:=by simp;omega
    have a6:(j:Int)=(m:Int):=by omega
    have a2:Hid (M.take (j+1)=R++ [repT x 1 (-1)]):=by show _=_;rw[List.take_add_one,hjm,b5.o,<-hjm,A.o];rfl
    clear hjm hjt hj;have a4:LiesB (fun b=>(B b/\(b<w.heap.size\/w.heap.size+3<=b))/\some b≠(Value.slice G j I).ownBlock) (wr.alloc (.cells (xA x T U) 28)) (.slice (some ⟨wr.heap.size,0,none⟩) 1 1) [x]:=
     LiesB.of_one x _ 28 ⟨⟨V.o _ (by have:=p.o;omega),.inr p.o⟩,fun e=>by have:=(d.o _ e).2;omega⟩ HF.o ((HL.o.mono fun b q h=>⟨⟨h,.inl q⟩,fun e=>by have:=(d.o _ e).1;omega⟩).stays J.o)
    have a8:(wr.alloc (.cells (xA x T U) 28)).heap.size=wr.heap.size+1:=by simp
    have a0:Hid (LiesB (fun b=>(B b/\(b<w.heap.size\/w.heap.size+3<=b))/\some b≠(Value.slice G j I).ownBlock) ((wr.alloc (.cells (xA x T U) 28)).alloc (.cells (ZA 5 1 (-1) 0 (.slice (some ⟨wr.heap.size,0,none⟩) 1 1)) 28)) (.slice (some ⟨wr.heap.size+1,0,none⟩) 1 1) [(repT x 1 (-1))]):=by
     have h:=LiesB.of_one (B:=(fun b=>(B b/\(b<w.heap.size\/w.heap.size+3<=b))/\some b≠(Value.slice G j I).ownBlock)) (w:=(wr.alloc (.cells (xA x T U) 28))) (repT x 1 (-1)) (.slice (some ⟨wr.heap.size,0,none⟩) 1 1) 28 ⟨⟨V.o _ (by have:=p.o;omega),.inr (by have:=p.o;omega)⟩,fun e=>by have:=(d.o _ e).2;omega⟩ (Gc x ⟨by decide,by decide⟩ ⟨by decide,by decide⟩) a4;have e:(Bi (.slice (some ⟨wr.heap.size,0,none⟩) 1 1) (repT x 1 (-1))).toArray=(ZA 5 1 (-1) 0 (.slice (some ⟨wr.heap.size,0,none⟩) 1 1)):=by
      simp only[Bi,repT,Re.op,Re.lo,Re.hi,Re.group,Re.set,e0,e1,e2,e3];rfl
     rw[e,a8]at h;exact h
    have g:=qh ((qb wr (.cells (xA x T U) 28)).alloc (by simp) (.cells (ZA 5 1 (-1) 0 (.slice (some ⟨wr.heap.size,0,none⟩) 1 1)) 28));clear a4 a8;go_wp2_with (first
     | (at_builtin
        refine Bb _ rfl _ _ rfl (w.heap.size+3) (.slice G j I) R (by rfl) (HR.o.stays g.o) (.slice (some ⟨(wr.heap.size+1),0,none⟩) 1 1) [(repT x 1 (-1))] (by rfl) a0.o (by have:=K.o;have:=HJ.o;simp;omega) (Nat.le_trans p.o g.o.size) ?_;intro v7 w7 z n a3;obtain⟨e6,e7,rfl⟩:∃a c,v7=.slice a (j+1) c:=by have:=z.form;rw[List.length_append,K.o]at this;exact this
        have a1:=qh z;have u:=qh ((D.o.stays g.o).chg n (fun e=>by have:=(d.o _ e).1;omega));clear y0 y1 y2 y3 y4 y5 y6 y7 y8 z8 x0 x1 x2 x3 x4 x5 x6 x7 x8;obtain⟨y0,y1,y2,y3,y4,y5,y6,y7,y8⟩:=u.o.nine;have z8:=u.o.free 8;have N:=qh ((J.o.trans (g.o.mono J.o.size)).trans (n.below (Nat.le_trans J.o.size g.o.size) (fun k hk e=>by have:=(d.o k e).1;omega)));have P:=qh ((i.o.stays g.o).chg n (fun e=>by have:=(d.o _ e).1;omega));have O:=qh ((C.o.stays g.o).chg n (fun e=>by have:=(d.o _ e).1;omega));clear z n a3))
    go_roundw
    case rel=>exact⟨j+1,_,HJ.o.1,by go_num,u.o.set 8 _,by rw[a2.o];exact TRow.set3 a1.o (by omega) (fun b q e=>by rcases q.2 with h | h <;> omega),N.o.trans ((Chg.setCell w7 (w.heap.size+1+1) 8 _).below N.o.size (fun k hk e=>by omega)),P.o.chg (Chg.setCell w7 (w.heap.size+1+1) 8 _) (by omega),O.o.chg (Chg.setCell w7 (w.heap.size+1+1) 8 _) (by omega)⟩
    case measure=>have:=HJ.o;simp[intOf];omega
   ·have e4:((j:Int)==(m:Int))=false:=beq_eq_false_iff_ne.2 (by omega)
    have a6:¬(j:Int)=(m:Int):=by omega
    have a2:Hid (M.take (j+1)=R++ [x]):=by show _=_;rw[List.take_add_one,b2.o j (by omega),A.o];rfl
    clear hjm hjt hj;have a0:Hid (LiesB (fun b=>(B b/\(b<w.heap.size\/w.heap.size+3<=b))/\some b≠(Value.slice G j I).ownBlock) (wr.alloc (.cells (xA x T U) 28)) (.slice (some ⟨wr.heap.size,0,none⟩) 1 1) [x]):=
     LiesB.of_one x _ 28 ⟨⟨V.o _ (by have:=p.o;omega),.inr p.o⟩,fun e=>by have:=(d.o _ e).2;omega⟩ HF.o ((HL.o.mono fun b q h=>⟨⟨h,.inl q⟩,fun e=>by have:=(d.o _ e).1;omega⟩).stays J.o)
    have g:=qh (qb wr (.cells (xA x T U) 28));go_wp2_with (first
     | (at_builtin
        refine Bb _ rfl _ _ rfl (w.heap.size+3) (.slice G j I) R (by rfl) (HR.o.stays g.o) (.slice (some ⟨wr.heap.size,0,none⟩) 1 1) [x] (by rfl) a0.o (by have:=K.o;have:=HJ.o;simp;omega) (Nat.le_trans p.o g.o.size) ?_;intro v7 w7 z n a3;obtain⟨e6,e7,rfl⟩:∃a c,v7=.slice a (j+1) c:=by have:=z.form;rw[List.length_append,K.o]at this;exact this
        have a1:=qh z;have u:=qh ((D.o.stays g.o).chg n (fun e=>by have:=(d.o _ e).1;omega));clear y0 y1 y2 y3 y4 y5 y6 y7 y8 z8 x0 x1 x2 x3 x4 x5 x6 x7 x8;obtain⟨y0,y1,y2,y3,y4,y5,y6,y7,y8⟩:=u.o.nine;have z8:=u.o.free 8;have N:=qh ((J.o.trans (g.o.mono J.o.size)).trans (n.below (Nat.le_trans J.o.size g.o.size) (fun k hk e=>by have:=(d.o k e).1;omega)));have P:=qh ((i.o.stays g.o).chg n (fun e=>by have:=(d.o _ e).1;omega));have O:=qh ((C.o.stays g.o).chg n (fun e=>by have:=(d.o _ e).1;omega));clear z n a3))
    go_roundw
    case rel=>exact⟨j+1,_,HJ.o.1,by go_num,u.o.set 8 _,by rw[a2.o];exact TRow.set3 a1.o (by omega) (fun b q e=>by rcases q.2 with h | h <;> omega),N.o.trans ((Chg.setCell w7 (w.heap.size+1+1) 8 _).below N.o.size (fun k hk e=>by omega)),P.o.chg (Chg.setCell w7 (w.heap.size+1+1) 8 _) (by omega),O.o.chg (Chg.setCell w7 (w.heap.size+1+1) 8 _) (by omega)⟩
    case measure=>have:=HJ.o;simp[intOf];omega
  ·have e5:¬(j:Int)< (m:Int)+1:=by omega
   obtain rfl:j=m+1:=by omega
   have a5:Hid (TRow (fun b=>B b/\(b<w.heap.size\/w.heap.size+3<=b)) wr (w.heap.size+3) (.slice G (m+1) I) M):=by
    have h1:=HR.o;rw[<- A.o,List.take_of_length_le (by have:=Y.o;omega)]at h1;exact h1
   clear hj hjt A K HR y0 y1 y2 y3 y4 y5 y6 y7 y8 z8 x0 x1 x2 x3 x4 x5 x6 x7 x8;go_wp2
   go_loopw [9] (fun ix S=>∃(X:Value),ix=.int .i64 ((m:Int)+1)/\TB S (w.heap.size+1+1) (ZL 3 0 0 0 X)/\TRow (fun b=>B b/\(b<w.heap.size\/w.heap.size+3<=b)) S (w.heap.size+3) X M/\qw w S/\TB S (w.heap.size+1) (ZL0)/\TB S w.heap.size (xL x T U)) (fun ix _=>0)
   case atStart=>exact⟨_,rfl,D.o,a5.o,J.o,i.o,C.o⟩
   case round=>
    clear D a5 J i C d p;obtain⟨X,rfl,t,l,q,Q,L⟩:=hrel;have HR:=qh l;have J:=qh q;have i:=qh Q;obtain⟨G,I,rfl⟩:∃a c,X=.slice a (m+1) c:=by have:=l.form;rwa [Y.o]at this
    obtain⟨y0,y1,y2,y3,y4,y5,y6,y7,y8⟩:=t.nine;obtain⟨x0,x1,x2,x3,x4,x5,x6,x7,x8⟩:=L.nine;have e8:¬(m:Int)+1< -1:=by omega
    clear l q Q t L;obtain⟨d0,d1,d2,d3,d4,d5,d6,d7,d8⟩:=i.o.nine;obtain⟨z0,z1,z2,z3,z4,z5,z6,z7,z8⟩:=i.o.free9;go_wp2;have en:=(i.o.put9 (.int .i64 3) (.int .u64 0) (.int .u64 0) (.int .u64 0) (.int .u64 0) (.int .i64 0) (.int .i64 0) (.int .i64 0) (.slice G (m+1) I)).nine;try unfold put9 at en
    obtain⟨n0,n1,n2,n3,n4,n5,n6,n7,n8⟩:=en;try simp only[Exit.inBlock,Exit.then]
    refine bodyPost_ret (v:=.agg (ZA 3 0 0 0 (.slice G (m+1) I))) (by simp[results,results142,go_sem,n0,n1,n2,n3,n4,n5,n6,n7,n8]) rfl ?_;refine⟨⟨.slice G (m+1) I,?_,?_⟩,J.o.trans ((Av _ _ (.int .i64 3) (.int .u64 0) (.int .u64 0) (.int .u64 0) (.int .u64 0) (.int .i64 0) (.int .i64 0) (.int .i64 0) (.slice G (m+1) I)).below J.o.size (fun k hk e=>by omega))⟩
    ·show _=Ending.returned (.agg #[.int .i64 3,.int .u64 (Sets.Aa noP 0:Nat),.int .u64 (Sets.Aa noP 1:Nat),.int .u64 (Sets.Aa noP 2:Nat),.int .u64 (Sets.Aa noP 3:Nat),.int .i64 0,.int .i64 0,.int .i64 0,_])
     rw[e0,e1,e2,e3];rfl
    ·have h1:=(HR.o.lies (fun b q=>⟨V.o _ (by omega),.inr q⟩)).chg (Av _ _ (.int .i64 3) (.int .u64 0) (.int .u64 0) (.int .u64 0) (.int .u64 0) (.int .i64 0) (.int .i64 0) (.int .i64 0) (.slice G (m+1) I)) (fun b (q:B b/\(b<w.heap.size\/w.heap.size+3<=b)) (e:b=w.heap.size+1)=>by rcases q.2 with h | h <;> omega)
     exact (h1.mono fun b _ q=>q.1)
theorem Qk (B:Nat->Prop) (x:Re) (v:Value) (m h:Nat) (hm:m<=h) (a9:h<=64) (h2:2<=h) (N:List Re) (Y:N=List.replicate m x++List.replicate (h-m) (repT x 0 1)) (w:World) (hf:Ag x) (hl:LiesB B w v x.args) (hB:∀b,w.heap.size<=b->B b):
  Calls Tryz.prog 142 #[Ac v x,.int .i64 (m:Int),.int .i64 h] w fun r w'=>(∃v',r=.returned (Ac v' (Re.mk 3 noP 0 0 0 N))/\LiesB B w' v' (Re.mk 3 noP 0 0 0 N).args)/\qw w w':=by
 obtain⟨V,W,rfl⟩:=hl.lies.shape;have HL:=qh hl;have HF:=qh hf;have X:=qh hB;have e0:=Aj 0;have e1:=Aj 1;have e2:=Aj 2;have e3:=Aj 3;unfold Ac;clear hl hf hB;have a2:Hid (N.length=h):=by show _=_;rw[Y];simp;omega
 have d9:Hid (∀j,j<m->N[j]? =some x):=fun j hj=>by rw[Y];exact rep_lo _ _ hj
 have e4:Hid (∀j,m<=j->j<h->N[j]? =some (repT x 0 1)):=fun j hj f3=>by rw[Y];exact rep_hi _ _ hj (by omega)
 have b0:((h:Int)==0)=false:=beq_eq_false_iff_ne.2 (by omega);have b1:((h:Int)==1)=false:=beq_eq_false_iff_ne.2 (by omega);have b2:((h:Int)== -1)=false:=beq_eq_false_iff_ne.2 (by omega);have b4:¬(h:Int)=0:=by omega
 have b5:¬(h:Int)=1:=by omega
 have f2:¬h=1:=by omega
 have b6:¬(h:Int)= -1:=by omega
 have b7:(h:Int)<=64:=by omega
 have b8:(m:Int)<=64:=by omega
 have hz:(((m:Int)==1)=true/\((m:Int)=1)=True/\(m=1)=True)\/(((m:Int)==1)=false/\((m:Int)=1)=False/\(m=1)=False):=by
  by_cases hm1:m=1
  ·subst hm1
   exact .inl (by decide)
  · exact .inr ⟨beq_eq_false_iff_ne.2 (by omega),eq_false (by omega),eq_false hm1⟩
 have Q:Hid (m<=h/\h<=64):=⟨hm,a9⟩;clear hm a9 Y h2;obtain⟨c9,e7,e6,e5, -⟩:=TB.three w (xL x V W) ZL0 (ZL 3 0 0 0 (.slice none 0 0));rcases hz with ⟨b9,e8,e9⟩ | ⟨b9,e8,e9⟩;all_goals
  go_enter func142,ntmps142;go_wp2
  go_loopw [8] (fun ix wr=>∃(j:Nat) (ov:Value),j<=m/\ix=.int .i64 j/\TB wr (w.heap.size+1+1) (ZL 3 0 0 0 ov)/\TRow (fun b=>B b/\(b<w.heap.size\/w.heap.size+3<=b)) wr (w.heap.size+3) ov (N.take j)/\qw w wr/\TB wr (w.heap.size+1) (ZL0)/\TB wr w.heap.size (xL x V W)) (fun ix _=>m-(intOf ix).toNat)
  case atStart=>exact⟨0,_,Nat.zero_le _,rfl,e7.o,TRow.nil _ _ _,c9.o,e6.o,e5.o⟩
  case round=>
   obtain⟨j,ov,hj,rfl,t,n,A,T,K⟩:=hrel;obtain⟨G,l⟩:∃y,N.take j=y:=⟨_,rfl⟩;have z:=qh l;rw[l]at n;have C:Hid (G.length=j):=by show _=_;have:=a2.o;have:=Q.o;rw[<- l,List.length_take];omega
   have HR:=qh n;have O:=qh A;have E:=qh t;have p:=qh T;have D:=qh K;obtain⟨L,M,rfl⟩:∃a c,ov=.slice a j c:=by have:=n.form;rwa [C.o]at this
   obtain⟨y0,y1,y2,y3,y4,y5,y6,y7,y8⟩:=t.nine;have z8:=t.free 8;obtain⟨x0,x1,x2,x3,x4,x5,x6,x7,x8⟩:=K.nine;have u:Hid (w.heap.size+3<=wr.heap.size):=by show _<=_;have:=t.lt;omega
   have d:Hid (∀k,some k=(Value.slice L j M).ownBlock->w.heap.size+3<=k/\k<wr.heap.size):=fun k hk=>HR.o.lt k hk.symm;clear n l T A t K;by_cases hjt:j<m
   ·have a0:(j:Int)< (m:Int):=by omega
    have HJ:Hid (j<m/\m<=h/\h<=64):=⟨hjt,Q.o⟩;have a5:Hid (N.take (j+1)=G++ [x]):=by show _=_;rw[List.take_add_one,d9.o j hjt,z.o];rfl
    clear hjt hj;have a3:Hid (LiesB (fun b=>(B b/\(b<w.heap.size\/w.heap.size+3<=b))/\some b≠(Value.slice L j M).ownBlock) (wr.alloc (.cells (xA x V W) 28)) (.slice (some ⟨wr.heap.size,0,none⟩) 1 1) [x]):=
     LiesB.of_one x _ 28 ⟨⟨X.o _ (by have:=u.o;omega),.inr u.o⟩,fun e=>by have:=(d.o _ e).2;omega⟩ HF.o ((HL.o.mono fun b A h=>⟨⟨h,.inl A⟩,fun e=>by have:=(d.o _ e).1;omega⟩).stays O.o)
    have g:=qh (qb wr (.cells (xA x V W) 28));go_wp2_with (first
     | (at_builtin
        refine Bb _ rfl _ _ rfl (w.heap.size+3) (.slice L j M) G (by rfl) (HR.o.stays g.o) (.slice (some ⟨wr.heap.size,0,none⟩) 1 1) [x] (by rfl) a3.o (by have:=C.o;have:=HJ.o;simp;omega) (Nat.le_trans u.o g.o.size) ?_;intro v7 w7 J q a6;obtain⟨f0,f1,rfl⟩:∃a c,v7=.slice a (j+1) c:=by have:=J.form;rw[List.length_append,C.o]at this;exact this
        have a4:=qh J;have I:=qh ((E.o.stays g.o).chg q (fun e=>by have:=(d.o _ e).1;omega));clear y0 y1 y2 y3 y4 y5 y6 y7 y8 z8 x0 x1 x2 x3 x4 x5 x6 x7 x8;obtain⟨y0,y1,y2,y3,y4,y5,y6,y7,y8⟩:=I.o.nine;have z8:=I.o.free 8;have P:=qh ((O.o.trans (g.o.mono O.o.size)).trans (q.below (Nat.le_trans O.o.size g.o.size) (fun k hk e=>by have:=(d.o k e).1;omega)));have S:=qh ((p.o.stays g.o).chg q (fun e=>by have:=(d.o _ e).1;omega));have R:=qh ((D.o.stays g.o).chg q (fun e=>by have:=(d.o _ e).1;omega));clear J q a6))
    go_roundw
    case rel=>exact⟨j+1,_,HJ.o.1,by go_num,I.o.set 8 _,by rw[a5.o];exact TRow.set3 a4.o (by omega) (fun b A e=>by rcases A.2 with h | h <;> omega),P.o.trans ((Chg.setCell w7 (w.heap.size+1+1) 8 _).below P.o.size (fun k hk e=>by omega)),S.o.chg (Chg.setCell w7 (w.heap.size+1+1) 8 _) (by omega),R.o.chg (Chg.setCell w7 (w.heap.size+1+1) 8 _) (by omega)⟩
    case measure=>have:=HJ.o;simp[intOf];omega
   ·have a0:¬(j:Int)< (m:Int):=by omega
    obtain rfl:m=j:=by omega
    have a8:Hid (TRow (fun b=>B b/\(b<w.heap.size\/w.heap.size+3<=b)) wr (w.heap.size+3) (.slice L m M) (N.take m)):=by
     have h1:=HR.o;rw[<- z.o]at h1;exact h1
    clear hj hjt z C HR y0 y1 y2 y3 y4 y5 y6 y7 y8 z8 x0 x1 x2 x3 x4 x5 x6 x7 x8;go_wp2;clear a0
    go_loopw [9] (fun ix U=>∃(i:Nat) (ov:Value),(m<=i/\i<=h)/\ix=.int .i64 i/\TB U (w.heap.size+1+1) (ZL 3 0 0 0 ov)/\TRow (fun b=>B b/\(b<w.heap.size\/w.heap.size+3<=b)) U (w.heap.size+3) ov (N.take i)/\qw w U/\TB U (w.heap.size+1) (ZL0)/\TB U w.heap.size (xL x V W)) (fun ix _=>h-(intOf ix).toNat)
    case atStart=>exact⟨m,_,⟨ql,Q.o.1⟩,rfl,E.o,a8.o,O.o,p.o,D.o⟩
    case round=>
     clear E a8 O p D d u;obtain⟨j,ov,hj,rfl,t,n,A,T,K⟩:=hrel;obtain⟨G,l⟩:∃y,N.take j=y:=⟨_,rfl⟩;have z:=qh l;rw[l]at n;have C:Hid (G.length=j):=by show _=_;have:=a2.o;have:=Q.o;rw[<- l,List.length_take];omega
     have HR:=qh n;have O:=qh A;have E:=qh t;have p:=qh T;have D:=qh K;obtain⟨L,M,rfl⟩:∃a c,ov=.slice a j c:=by have:=n.form;rwa [C.o]at this
     obtain⟨y0,y1,y2,y3,y4,y5,y6,y7,y8⟩:=t.nine;have z8:=t.free 8;obtain⟨x0,x1,x2,x3,x4,x5,x6,x7,x8⟩:=K.nine;have u:Hid (w.heap.size+3<=wr.heap.size):=by show _<=_;have:=t.lt;omega
     have d:Hid (∀k,some k=(Value.slice L j M).ownBlock->w.heap.size+3<=k/\k<wr.heap.size):=fun k hk=>HR.o.lt k hk.symm;clear n l T A t K;by_cases hjt:j<h
     ·have a0:(j:Int)< (h:Int):=by omega
      have HJ:Hid ((m<=j+1/\j+1<=h)/\j<h/\h<=64):=⟨⟨by omega,hjt⟩,hjt,Q.o.2⟩;have a5:Hid (N.take (j+1)=G++ [repT x 0 1]):=by show _=_;rw[List.take_add_one,e4.o j hj.1 hjt,z.o];rfl
      clear hjt hj;have a7:LiesB (fun b=>(B b/\(b<w.heap.size\/w.heap.size+3<=b))/\some b≠(Value.slice L j M).ownBlock) (wr.alloc (.cells (xA x V W) 28)) (.slice (some ⟨wr.heap.size,0,none⟩) 1 1) [x]:=
         LiesB.of_one x _ 28 ⟨⟨X.o _ (by have:=u.o;omega),.inr u.o⟩,fun e=>by have:=(d.o _ e).2;omega⟩ HF.o ((HL.o.mono fun b A h=>⟨⟨h,.inl A⟩,fun e=>by have:=(d.o _ e).1;omega⟩).stays O.o)
      have b3:(wr.alloc (.cells (xA x V W) 28)).heap.size=wr.heap.size+1:=by simp
      have a3:Hid (LiesB (fun b=>(B b/\(b<w.heap.size\/w.heap.size+3<=b))/\some b≠(Value.slice L j M).ownBlock) ((wr.alloc (.cells (xA x V W) 28)).alloc (.cells (ZA 5 0 1 0 (.slice (some ⟨wr.heap.size,0,none⟩) 1 1)) 28)) (.slice (some ⟨wr.heap.size+1,0,none⟩) 1 1) [(repT x 0 1)]):=by
         have h:=LiesB.of_one (B:=(fun b=>(B b/\(b<w.heap.size\/w.heap.size+3<=b))/\some b≠(Value.slice L j M).ownBlock)) (w:=(wr.alloc (.cells (xA x V W) 28))) (repT x 0 1) (.slice (some ⟨wr.heap.size,0,none⟩) 1 1) 28 ⟨⟨X.o _ (by have:=u.o;omega),.inr (by have:=u.o;omega)⟩,fun e=>by have:=(d.o _ e).2;omega⟩ (Gc x ⟨by decide,by decide⟩ ⟨by decide,by decide⟩) a7;have e:(Bi (.slice (some ⟨wr.heap.size,0,none⟩) 1 1) (repT x 0 1)).toArray=(ZA 5 0 1 0 (.slice (some ⟨wr.heap.size,0,none⟩) 1 1)):=by
          simp only[Bi,repT,Re.op,Re.lo,Re.hi,Re.group,Re.set,e0,e1,e2,e3];rfl
         rw[e,b3]at h;exact h
      have g:=qh ((qb wr (.cells (xA x V W) 28)).alloc (by simp) (.cells (ZA 5 0 1 0 (.slice (some ⟨wr.heap.size,0,none⟩) 1 1)) 28));clear a7 b3;go_wp2_with (first
         | (at_builtin
            refine Bb _ rfl _ _ rfl (w.heap.size+3) (.slice L j M) G (by rfl) (HR.o.stays g.o) (.slice (some ⟨(wr.heap.size+1),0,none⟩) 1 1) [(repT x 0 1)] (by rfl) a3.o (by have:=C.o;have:=HJ.o.2;simp;omega) (Nat.le_trans u.o g.o.size) ?_;intro v7 w7 J q a6;obtain⟨f0,f1,rfl⟩:∃a c,v7=.slice a (j+1) c:=by have:=J.form;rw[List.length_append,C.o]at this;exact this
            have a4:=qh J;have I:=qh ((E.o.stays g.o).chg q (fun e=>by have:=(d.o _ e).1;omega));clear y0 y1 y2 y3 y4 y5 y6 y7 y8 z8 x0 x1 x2 x3 x4 x5 x6 x7 x8;obtain⟨y0,y1,y2,y3,y4,y5,y6,y7,y8⟩:=I.o.nine;have z8:=I.o.free 8;have P:=qh ((O.o.trans (g.o.mono O.o.size)).trans (q.below (Nat.le_trans O.o.size g.o.size) (fun k hk e=>by have:=(d.o k e).1;omega)));have S:=qh ((p.o.stays g.o).chg q (fun e=>by have:=(d.o _ e).1;omega));have R:=qh ((D.o.stays g.o).chg q (fun e=>by have:=(d.o _ e).1;omega));clear J q a6))
      go_roundw
      case rel=>exact⟨j+1,_,HJ.o.1,by go_num,I.o.set 8 _,by rw[a5.o];exact TRow.set3 a4.o (by omega) (fun b A e=>by rcases A.2 with h | h <;> omega),P.o.trans ((Chg.setCell w7 (w.heap.size+1+1) 8 _).below P.o.size (fun k hk e=>by omega)),S.o.chg (Chg.setCell w7 (w.heap.size+1+1) 8 _) (by omega),R.o.chg (Chg.setCell w7 (w.heap.size+1+1) 8 _) (by omega)⟩
      case measure=>have:=HJ.o.2;simp[intOf];omega
     ·have a0:¬(j:Int)< (h:Int):=by omega
      obtain rfl:h=j:=by omega
      have a1:G=N:=by rw[<- z.o,List.take_of_length_le (by have:=a2.o;omega)]
      rw[a1]at HR;clear z8 a1;obtain⟨d0,d1,d2,d3,d4,d5,d6,d7,d8⟩:=p.o.nine;obtain⟨z0,z1,z2,z3,z4,z5,z6,z7,z8⟩:=p.o.free9;go_wp2;have en:=(p.o.put9 (.int .i64 3) (.int .u64 0) (.int .u64 0) (.int .u64 0) (.int .u64 0) (.int .i64 0) (.int .i64 0) (.int .i64 0) (.slice L h M)).nine;try unfold put9 at en
      obtain⟨n0,n1,n2,n3,n4,n5,n6,n7,n8⟩:=en;try simp only[Exit.inBlock,Exit.then]
      refine bodyPost_ret (v:=.agg (ZA 3 0 0 0 (.slice L h M))) (by simp[results,results142,go_sem,n0,n1,n2,n3,n4,n5,n6,n7,n8]) rfl ?_;refine⟨⟨.slice L h M,?_,?_⟩,O.o.trans ((Av _ _ (.int .i64 3) (.int .u64 0) (.int .u64 0) (.int .u64 0) (.int .u64 0) (.int .i64 0) (.int .i64 0) (.int .i64 0) (.slice L h M)).below O.o.size (fun k hk e=>by omega))⟩
      ·  show _=Ending.returned (.agg #[.int .i64 3,.int .u64 (Sets.Aa noP 0:Nat),.int .u64 (Sets.Aa noP 1:Nat),.int .u64 (Sets.Aa noP 2:Nat),.int .u64 (Sets.Aa noP 3:Nat),.int .i64 0,.int .i64 0,.int .i64 0,_])
         rw[e0,e1,e2,e3];rfl
      ·  have h1:=(HR.o.lies (fun b A=>⟨X.o _ (by omega),.inr A⟩)).chg (Av _ _ (.int .i64 3) (.int .u64 0) (.int .u64 0) (.int .u64 0) (.int .u64 0) (.int .i64 0) (.int .i64 0) (.int .i64 0) (.slice L h M)) (fun b (A:B b/\(b<w.heap.size\/w.heap.size+3<=b)) (e:b=w.heap.size+1)=>by rcases A.2 with h | h <;> omega)
         exact (h1.mono fun b _ A=>A.1)
theorem Yp (B:Nat->Prop) (x:Re) (v:Value) (lo hi:Int) (w:World) (c:Ag x) (d:LiesB B w v x.args) (a:∀b,w.heap.size<=b->B b) (g:counted lo hi=true) (i:simple lo hi=false):
  Calls Tryz.prog 142 #[Ac v x,.int .i64 lo,.int .i64 hi] w fun r w'=>(∃v',r=.returned (Ac v' (repeated x lo hi))/\LiesB B w' v' (repeated x lo hi).args)/\qw w w':=by
 have j:=Dw g;have l:=Lq i;by_cases h0:hi=0
 ·subst h0
  rw[show repeated x lo 0=Re.mk 1 noP 0 0 0 [] from if_pos rfl];exact Xa B x v lo w c d a
 by_cases h1:lo=1/\hi=1
 ·obtain⟨rfl,rfl⟩:=h1
  exact Wy B x v w c d a
 by_cases hm:hi= -1
 ·subst hm
  obtain⟨m,rfl⟩:∃m:Nat,lo=(m:Int)+1:=⟨(lo-1).toNat,by omega⟩;have e:repeated x ((m:Int)+1) (-1)=Re.mk 3 noP 0 0 0 (List.replicate m x++ [repT x 1 (-1)]):=by
   unfold repeated;rw[if_neg (by omega),if_neg (by omega),if_pos rfl,show ((m:Int)+1).toNat-1=m by omega]
  rw[e];exact Wz B x v m (by omega) (by omega) _ rfl w c d a
 ·obtain⟨m,rfl⟩:∃m:Nat,lo=(m:Int):=⟨lo.toNat,by omega⟩
  obtain⟨h,rfl⟩:∃h:Nat,hi=(h:Int):=⟨hi.toNat,by omega⟩;have e:repeated x (m:Int) (h:Int)=Re.mk 3 noP 0 0 0 (List.replicate m x++List.replicate (h-m) (repT x 0 1)):=by
   unfold repeated;rw[if_neg h0,if_neg h1,if_neg hm,show (m:Int).toNat=m by omega,show ((h:Int)-(m:Int)).toNat=h-m by omega]
  rw[e];exact Qk B x v m h (by omega) (by omega) (by omega) _ rfl w c d a
end ReMem
namespace ReMem
open Go Go.RowKit MatchMath
theorem Tp (e:Re) (v:Value) (w:World) (d:Lies w v e.args):
  Calls Tryz.prog 141 #[Ac v e] w fun r w'=>r=.returned (.bool (simple e.lo e.hi))/\qw w w':=by
 obtain⟨j,m,rfl⟩:=d.shape;obtain⟨o,s,l,h,g,args⟩:=e;unfold Ac;simp only[Re.op,Re.set,Re.lo,Re.hi,Re.group,Re.args];have a:=qh (qb w (.cells (WA o s l h g (.slice j args.length m)) 28));obtain⟨z,c⟩:∃z,simple l h=z:=⟨_,rfl⟩;rw[c];have b:=qh c;clear d c;by_cases h0:l=0
 ·subst h0
  by_cases h1:h=1
  ·subst h1
   go_enter func141,ntmps141;go_wp2;go_ret;exact⟨by rw[<- b.o];rfl,a.o⟩
  ·have p:(h==1)=false:=beq_eq_false_iff_ne.2 h1
   by_cases h2:h= -1
   ·subst h2
    go_enter func141,ntmps141;go_wp2;go_ret;exact⟨by rw[<- b.o];rfl,a.o⟩
   ·have i:(h== -1)=false:=beq_eq_false_iff_ne.2 h2
    go_enter func141,ntmps141;go_wp2;go_ret;exact⟨by rw[<- b.o];simp[simple,h1,h2],a.o⟩
 ·have n:(l==0)=false:=beq_eq_false_iff_ne.2 h0
  by_cases h3:l<=1
  ·by_cases h2:h= -1
   ·subst h2
    go_enter func141,ntmps141;go_wp2;go_ret;exact⟨by rw[<- b.o];simp[simple,h3],a.o⟩
   ·have i:(h== -1)=false:=beq_eq_false_iff_ne.2 h2
    go_enter func141,ntmps141;go_wp2;go_ret;exact⟨by rw[<- b.o];simp[simple,h0,h2],a.o⟩
  ·go_enter func141,ntmps141
   go_wp2;go_ret;exact⟨by rw[<- b.o];simp[simple,h0];omega,a.o⟩
end ReMem
end Go.Proofs.YtjefcpjciogcjaaGreatDoor
