/- Lemmas for the walk of the law, in 4 parts. No condition beyond what each states. -/
import Derived.Test.YtjefcpjciogcjaaGreatDoorG19
import Derived.Test.YtjefcpjciogcjaaGreatDoorG8
import Derived.Deep.RegionHeld
import Derived.StillTail
namespace Go.Proofs.YtjefcpjciogcjaaGreatDoor
set_option maxRecDepth 100000
set_option linter.unusedVariables false
set_option maxHeartbeats 16000000
open Tryz
namespace ReMem
open Go Go.RowKit MatchMath
theorem Wv:∀(l:List Re) (a:List Value) (j:Nat) (u:Value),a.length=l.length->(Dr l a)[j]? =some u->∃t v,l[j/9]? =some t/\a[j/9]? =some v/\(Bi v t)[j%9]? =some u
 | [],_,j,u,_,h=>by simp[Dr]at h
 | _::_,[],j,u,hl,h=>by simp at hl
 |y::r,z::s,j,u,hl,h=>by
  have h9:(Bi z y).length=9:=rfl;by_cases hj:j<9
  ·have e:(Bi z y++Dr r s)[j]? =some u:=h
   rw[List.getElem?_append_left (by omega)]at e;refine⟨y,z,by rw[Nat.div_eq_of_lt hj];rfl,by rw[Nat.div_eq_of_lt hj];rfl,by rw[Nat.mod_eq_of_lt hj];exact e⟩
  ·have e:(Bi z y++Dr r s)[j]? =some u:=h
   rw[List.getElem?_append_right (by omega),h9]at e;obtain⟨t,v,b,c,g⟩:=Wv r s (j-9) u (by simpa using hl) e;have d:j/9=(j-9)/9+1:=by omega
   have m:j%9=(j-9)%9:=by omega
   exact⟨t,v,by rw[d];exact b,by rw[d];exact c,by rw[m];exact g⟩
theorem rCells_one (l:List Re) (b:List Value) (h:∀v∈b,v.oneCell'=true):∀u∈Dr l b,u.oneCell'=true:=by
 intro u c;obtain⟨x,e,a⟩:=List.mem_flatMap.1 c;have d:=h x.2 (List.of_mem_zip e).2;simp[Bi]at a;rcases a with rfl | rfl | rfl | rfl | rfl | rfl | rfl | rfl | rfl;all_goals first | rfl | exact d
theorem re_info':(Tryz.prog.info? 28).map (fun i=>(i.zero,i.size,i.bytes))=some (some (.agg (ZA0)),9,88):=by kernel_rfl
theorem LiesB.near {B:Nat->Prop} {w j:World} {v i:Value} (m:Chg (fun k=>some k=v.ownBlock) w j) (n:Near w.heap.size v i) {x:Value} {g:List Re} (h:LiesB (fun b=>B b/\some b≠v.ownBlock) w x g):LiesB (fun b=>B b/\some b≠i.ownBlock) j x g:=by
 have l:LiesB (fun b=>(B b/\some b≠i.ownBlock)/\some b≠v.ownBlock) w x g:=h.mono fun b a d=>⟨⟨d.1,fun e=>by
  rcases n with c | c
  · exact d.2 (by rw[<- c];exact e)
  ·have:=c b e.symm
   omega⟩,d.2⟩
 exact (l.chg m (fun b a e=>a.2 e)).mono fun b _ a=>a.1
theorem Xx {B:Nat->Prop} {o:Oper} {a:Act} {K:Act->World->Prop} {Q:Exit->Act->World->Prop} (w:World) (s x:Operand)
  (V:o.op=.call {callee:=.builtin .append,args:=#[s,x],argTypes:=#[26,26]}) (base:Nat) (v:Value) (l:List Re) (X:a.eval s=v) (W:TRow B w base v l)
  (mv:Value) (m:List Re) (hx:a.eval x=mv) (hm:LiesB (fun b=>B b/\some b≠v.ownBlock) w mv m) (hsz:l.length+m.length<=1099511627776) (hb:base<=w.heap.size)
  (h:∀A E,TRow B E base A (l++m)->Chg (fun k=>some k=v.ownBlock) w E->Near w.heap.size v A->K (a.put o.dst A) E):Oper.wp Tryz.prog o a w K Q:=by
 obtain⟨Y,hi,R,S,T⟩:=info_parts re_info';cases hm with
 | mk ma mc _ us hul hmc hmf hcell hsub=>
 by_cases hm0:m= []
 ·subst hm0
  obtain⟨I,c,d,L,y⟩:=W;obtain⟨U,G,rfl,C⟩:∃U G,v=.slice U l.length G/\l.length<=G:=by
   rcases d.2 with ⟨e,h0⟩ | ⟨g,J,a0,fz,e,_,_,_,N,_⟩
   · exact⟨none,0,by rw[e,h0],by omega⟩
   · exact⟨_,J,e,N⟩
  exact Fc w s x 26 V 28 Y underlying26 hi U l.length G C X ma mc hx (h _ w (by rw[List.append_nil];exact⟨I,c,d,L,y⟩) (Chg.refl _ w) (Near.refl _ _))
 ·obtain⟨b,off,a2,rfl,hc⟩:=hcell hm0
  obtain⟨I,c,d,L,y⟩:=W;have D:∀u∈us,u.oneCell'=true:=fun u i=>by
   obtain⟨j,p⟩:=List.mem_iff_getElem?.1 i;obtain⟨t,O⟩:∃t,m[j]? =some t:=⟨_,List.getElem?_eq_getElem (by have:=(List.getElem?_eq_some_iff.1 p).1;omega)⟩;obtain⟨a1,c1,rfl⟩:=(hsub j t u O p).lies.shape;rfl
  obtain⟨A,E,hr,h2,h3,h4⟩:=Own.Gg (P:=Tryz.prog) w base 26 o.type 28 Y (.agg (ZA0)) 9 88 underlying26 hi R S T rfl (by decide) v l.length (Dr l I) d ⟨b,off,none⟩ m.length mc (Dr m us) (Ll m us hul) (fun j u i=>by
   obtain⟨t,z,g1,g2,g3⟩:=Wv m us j u hul i;have ea:(⟨b,off,none⟩:Addr).add j=⟨b,off+j,none⟩:=by
    by_cases hj0:j=0
    ·subst hj0
     rfl
    · simp[Addr.add,hj0]
   rw[ea,show off+j=off+9*(j/9)+j%9 by omega];exact hc _ t z g1 g2 _ u g3) (rCells_one m us D) (by unfold maxLen;omega) (by omega) hb
  have n:=Chg.grown h3;have r:Near w.heap.size v A:=h4.imp id fun e k M=>by rw[e]at M;injection M with M;omega
  unfold Oper.wp execOp;simp only[V,resolve,invoke,builtin,Sem.run_bind,Sem.run_pure,Result.andThen_ok,List.map_toArray,List.map_cons,List.map_nil,X,hx,hr];refine h A E ⟨I++us,by simp[c,hul],?_,fun t O=>?_,fun j q u p i=>?_⟩ n r
  ·rw[Ol c,List.length_append]
   exact h2
  · exact (List.mem_append.1 O).elim (L t) (hmf t)
  ·by_cases hjl:j<l.length
   ·rw[List.getElem?_append_left hjl]at p
    rw[List.getElem?_append_left (by omega)]at i;exact (y j q u p i).near n r
   ·rw[List.getElem?_append_right (by omega)]at p
    rw[List.getElem?_append_right (by omega),c]at i;exact (hsub _ q u p i).near n r
end ReMem
namespace ReMem
open Go Go.RowKit MatchMath
def TB (w:World) (g:Nat) (cur:List Value):Prop:=w.heap[g]? =some (.cells cur.toArray 28 (0,0))
theorem TB.set {w:World} {g:Nat} {cur:List Value} (h:TB w g cur) (k:Nat) (u:Value):TB (w.setCell ⟨g,k,none⟩ u) g (cur.set k u):=by
 unfold TB at*;rw[setCell_eq_setRow w g _ _ _ _ _ h,setRow_heap w g _ _ _ _ h];simp
theorem TB.at {w:World} {g:Nat} {cur:List Value} (h:TB w g cur) {k:Nat} (a:k<cur.length):w.cell? ⟨g,k,none⟩=some cur[k]:=by
 rw[qc h];simp[a]
theorem TB.free {w:World} {g:Nat} {cur:List Value} (h:TB w g cur) (k:Nat):w.frozen? ⟨g,k,none⟩=false:=by
 unfold TB at h;unfold World.frozen?;rw[h];simp
def Qh (cur:List Value) (b:Nat):List Value->List Value
 | []=>cur
 | v::r=>Qh (cur.set b v) (b+1) r
theorem putAt_len:∀(a cur:List Value) (b:Nat),(Qh cur b a).length=cur.length
 | [],_,_=>rfl
 | v::r,cur,b=>by rw[Qh,putAt_len r];simp
theorem Rs:∀(a cur:List Value) (b k:Nat),k<b->(Qh cur b a)[k]? =cur[k]?
 | [],_,_,_,_=>rfl
 | v::r,cur,b,k,h=>by rw[Qh,Rs r _ _ _ (by omega),List.getElem?_set_ne (by omega)]
theorem putAt_in:∀(a cur:List Value) (b i:Nat) (u:Value),b+a.length<=cur.length->a[i]? =some u->(Qh cur b a)[b+i]? =some u
 | [],_,_,_,_,_,h=>by simp at h
 |v::r,cur,b,0,u,hl,h=>by
  simp only[List.length_cons]at hl;obtain rfl:v=u:=by simpa using h
  rw[Qh,Rs r _ _ _ (by omega)];show (cur.set b v)[b]? =_;rw[List.getElem?_set_self (by omega)]
 |v::r,cur,b,i+1,u,hl,h=>by
  simp only[List.length_cons]at hl;rw[Qh,show b+(i+1)=b+1+i by omega];exact putAt_in r _ _ i u (by rw[List.length_set];omega) (by simpa using h)
theorem Bx (B:Nat->Prop) (x:Re) (v:Value) (n:Nat) (w:World) (hf:Ag x) (X:LiesB B w v x.args) (hB:∀b,w.heap.size<=b->B b) (hn:n<=4096):
  Calls Tryz.prog 202 #[Ac v x,.int .i64 n] w fun r w'=>(∃v',r=.returned v'/\TRow B w' w.heap.size v' (List.replicate n x))/\qw w w':=by
 obtain⟨g,l,rfl⟩:=X.lies.shape;have HL:=qh X;have HF:=qh hf;have HB:=qh hB;obtain⟨i0,V,a0,a1,a2⟩:=info_parts re_info';have a6:(n:Int)<=4096:=by omega
 unfold Ac;clear X hf hB;have G:=qh (qb w (.cells (xA x g l) 28));have S:=qh (heap_alloc_new w (.cells (xA x g l) 28));go_enter func202,ntmps202;go_wp2_with (first
  | (at_make
     refine wpList_make_full _ rfl _ _ _ rfl (w.heap.size+1) 28 i0 _ 9 underlying26 V a0 a1 .i64 .i64 _ _ n rfl rfl rfl rfl (by rw[a2];omega) (by unfold maxLen;omega) (by simp) ?_;intro w5 y M;have P:Hid (Below (w.alloc (.cells (xA x g l) 28)).heap.size (w.alloc (.cells (xA x g l) 28)) w5):=(Below.refl _ _).grown M ql (fun z Y=>by cases Y);have R:Hid (∃c:List Value,TB w5 (w.heap.size+1) c/\c.length=n*9):=by
       rcases y.2 with ⟨e,_⟩ | ⟨g9,a3,c,e,K,U,a5,a4,T,a7⟩
       · cases e
       · injection e with e1 e2 e3
         injection e1 with e1;injection e1 with e1;subst e3;refine⟨c.toList,?_,by simpa using T⟩;show _=_;rw[show w.heap.size+1=g9 by rw[<- e1];simp,U]
     clear y M))
 go_loopw [11] (fun ix wr=>∃(j:Nat) (c:List Value),j<=n/\ix=.int .i64 j/\TB wr (w.heap.size+1) c/\c.length=n*9/\Hid (∀q,q<j->∀i u,(Bi (.slice g x.args.length l) x)[i]? =some u->c[9*q+i]? =some u)/\Below (w.heap.size+1) (w.alloc (.cells (xA x g l) 28)) wr) (fun ix _=>n-(intOf ix).toNat)
 case atStart=>
  obtain⟨c,N,O⟩:=R.o;exact⟨0,c,Nat.zero_le _,rfl,N,O,fun q D=>by omega,P.o.mono (by simp)⟩
 case round=>
  obtain⟨j,c,hj,rfl,a,L,HQ,K⟩:=hrel;have HT:=qh a;have I:=qh L;have C:=qh K;have d:=(K.block w.heap.size (Nat.lt_succ_self _)).trans S.o;by_cases hjt:j<n
  ·have W:(j:Int)< (n:Int):=by omega
   have Q:=qh hjt;obtain⟨s0,c0⟩:∃s,wr.cell? ⟨w.heap.size+1,j*9,none⟩=some s:=⟨_,a.at (k:=j*9) (by omega)⟩;have z0:=a.free (j*9);obtain⟨s1,c1⟩:∃s,wr.cell? ⟨w.heap.size+1,j*9+1,none⟩=some s:=⟨_,a.at (k:=j*9+1) (by omega)⟩;have z1:=a.free (j*9+1);obtain⟨s2,c2⟩:∃s,wr.cell? ⟨w.heap.size+1,j*9+2,none⟩=some s:=⟨_,a.at (k:=j*9+2) (by omega)⟩;have z2:=a.free (j*9+2);obtain⟨s3,c3⟩:∃s,wr.cell? ⟨w.heap.size+1,j*9+3,none⟩=some s:=⟨_,a.at (k:=j*9+3) (by omega)⟩;have z3:=a.free (j*9+3);obtain⟨s4,c4⟩:∃s,wr.cell? ⟨w.heap.size+1,j*9+4,none⟩=some s:=⟨_,a.at (k:=j*9+4) (by omega)⟩;have z4:=a.free (j*9+4);obtain⟨s5,c5⟩:∃s,wr.cell? ⟨w.heap.size+1,j*9+5,none⟩=some s:=⟨_,a.at (k:=j*9+5) (by omega)⟩;have z5:=a.free (j*9+5);obtain⟨s6,c6⟩:∃s,wr.cell? ⟨w.heap.size+1,j*9+6,none⟩=some s:=⟨_,a.at (k:=j*9+6) (by omega)⟩;have z6:=a.free (j*9+6);obtain⟨s7,c7⟩:∃s,wr.cell? ⟨w.heap.size+1,j*9+7,none⟩=some s:=⟨_,a.at (k:=j*9+7) (by omega)⟩;have z7:=a.free (j*9+7);obtain⟨s8,c8⟩:∃s,wr.cell? ⟨w.heap.size+1,j*9+8,none⟩=some s:=⟨_,a.at (k:=j*9+8) (by omega)⟩;have z8:=a.free (j*9+8);have y0:wr.cell? ⟨w.heap.size,0,none⟩=some (.int .i64 x.op):=by rw[qc d];rfl
   have y1:wr.cell? ⟨w.heap.size,1,none⟩=some (.int .u64 (Sets.Aa x.set 0:Nat)):=by rw[qc d];rfl
   have y2:wr.cell? ⟨w.heap.size,2,none⟩=some (.int .u64 (Sets.Aa x.set 1:Nat)):=by rw[qc d];rfl
   have y3:wr.cell? ⟨w.heap.size,3,none⟩=some (.int .u64 (Sets.Aa x.set 2:Nat)):=by rw[qc d];rfl
   have y4:wr.cell? ⟨w.heap.size,4,none⟩=some (.int .u64 (Sets.Aa x.set 3:Nat)):=by rw[qc d];rfl
   have y5:wr.cell? ⟨w.heap.size,5,none⟩=some (.int .i64 x.lo):=by rw[qc d];rfl
   have y6:wr.cell? ⟨w.heap.size,6,none⟩=some (.int .i64 x.hi):=by rw[qc d];rfl
   have y7:wr.cell? ⟨w.heap.size,7,none⟩=some (.int .i64 x.group):=by rw[qc d];rfl
   have y8:wr.cell? ⟨w.heap.size,8,none⟩=some (.slice g x.args.length l):=by rw[qc d];rfl
   go_wp2;refine⟨⟨j+1,Qh c (j*9) (Bi (.slice g x.args.length l) x),Q.o,by go_num,(((((((((HT.o.set _ _).set _ _).set _ _).set _ _).set _ _).set _ _).set _ _).set _ _).set _ _),by rw[putAt_len];exact I.o,fun q D i u E=>?_,?_⟩,?_⟩
   ·  have hi:i<9:=(List.getElem?_eq_some_iff.1 E).1
      by_cases e:q=j
      · subst e
        rw[show 9*q+i=q*9+i by omega];exact putAt_in _ _ _ i u (by rw[I.o];show q*9+9<=_;have:=Q.o;omega) E
      · rw[Rs _ _ _ _ (by omega)]
        exact HQ.out q (by omega) i u E
   · exact (((((((((C.o.setCell (p:=⟨_,_,none⟩) ql _).setCell (p:=⟨_,_,none⟩) ql _).setCell (p:=⟨_,_,none⟩) ql _).setCell (p:=⟨_,_,none⟩) ql _).setCell (p:=⟨_,_,none⟩) ql _).setCell (p:=⟨_,_,none⟩) ql _).setCell (p:=⟨_,_,none⟩) ql _).setCell (p:=⟨_,_,none⟩) ql _).setCell (p:=⟨_,_,none⟩) ql _)
   ·  have:=Q.o
      simp[intOf];omega
  ·have W:¬(j:Int)< (n:Int):=by omega
   have J:Hid (TRow B wr w.heap.size (.slice (some ⟨w.heap.size+1,0,none⟩) n n) (List.replicate n x)):=by
      have m:(List.replicate n (Value.slice g x.args.length l)).length=(List.replicate n x).length:=by simp
      have A:c=Dr (List.replicate n x) (List.replicate n (.slice g x.args.length l)):=by
        refine List.ext_getElem? fun k=>?_;by_cases hk:k<n*9
        · have hi:k%9<9:=Nat.mod_lt _ (by omega)
          obtain⟨u,E⟩:∃u,(Bi (.slice g x.args.length l) x)[k%9]? =some u:=⟨_,List.getElem?_eq_getElem (show k%9< (Bi (.slice g x.args.length l) x).length from hi)⟩;have D:k/9<n:=by omega
          have N:=HQ.out (k/9) (by omega) _ u E;have O:=Rt (List.replicate n x) (List.replicate n (.slice g x.args.length l)) (k/9) x (.slice g x.args.length l) (by simp[D]) (by simp[D]) (k%9) u E;rw[show 9*(k/9)+k%9=k by omega]at N O;rw[N,O]
        · rw[List.getElem?_eq_none (by rw[I.o];omega),List.getElem?_eq_none (by rw[Ll _ _ m,List.length_replicate];omega)]
      refine⟨List.replicate n (.slice g x.args.length l),m,⟨by rw[Ll _ _ m],.inr ⟨w.heap.size+1,n,c.toArray,(0,0),by rw[List.length_replicate],Nat.le_succ _,HT.o,.inl rfl,by rw[List.length_replicate];exact ql,by unfold maxLen;omega,by simpa using I.o,?_⟩⟩,(fun t ht=>by rw[List.eq_of_mem_replicate ht];exact HF.o),fun q t z D Y=>?_⟩
      · rw[List.length_replicate,<-A,List.take_of_length_le (by simp[I.o])]
      · obtain rfl:=List.eq_of_mem_replicate (List.mem_of_getElem? D)
        obtain rfl:=List.eq_of_mem_replicate (List.mem_of_getElem? Y);exact (HL.o.mono (fun b K h=>⟨h,fun e=>by simp[Value.ownBlock]at e;omega⟩)).stays (G.o.trans (C.o.mono (Nat.le_succ _)))
   clear a L K d;go_wp2;go_ret;exact⟨⟨_,rfl,J.o⟩,G.o.trans (C.o.mono (Nat.le_succ _))⟩
end ReMem
namespace HeldTail
open Go
section
variable {P:Program} {ops:Array Oper} {Q:Exit->Act->World->Prop} {md:Region.Mode} {S:World->Prop}
def Qz (P:Program) (md:Region.Mode) (ops:Array Oper) (Q:Exit->Act->World->Prop) (S:World->Prop) (n:Nat) (L:Array Bool->Act->World->Prop):Nat->Array Bool->Act->World->Prop
 | 0,listed,a,w=>L listed a w
 | f+1,listed,a,w=>Region.ready md ops listed≠ []/\∀i∈Region.ready md ops listed,i<n/\wpOp P ops Q i (fun a' w'=>S w'/\Qz P md ops Q S n L f (listed.setIfInBounds i true) a' w') a w
theorem Nh {n g:Nat} {L:Array Bool->Act->World->Prop} (c:∀b a w,L b a w->wpAny P md ops Q g b a w):
  ∀(f:Nat) (b:Array Bool) (a:Act) (w:World),Qz P md ops Q S n L f b a w->wpAny P md ops Q (f+g) b a w
 | 0,b,a,w,h=>by rw[Nat.zero_add];exact c _ _ _ h
 |f+1,b,a,w,h=>by
  rw[show f+1+g=(f+g)+1 by omega];exact⟨fun h0=>absurd h0 h.1,fun i hi=>wpOp_mono (fun a' w' h'=>Nh c f _ a' w' h'.2) (h.2 i hi).2⟩
theorem Yv {n i:Nat} {z:Oper} {v:Value} {L:Array Bool->Act->World->Prop} (hi:ops[i]? =some z) (t:∀(j:Nat) (o:Oper) cs b,ops[j]? =some o->o.op≠ .select cs b)
  (V:∀c a w,Q (.panic c) (a.put z.dst v) w->Q (.panic c) a w)
  (R:Region.sinkB md ops n=true) (N:Region.chainB md ops n=true) (O:n<ops.size) (C:i<n)
  (u:∀d a w,L d a w->∀j∈Region.ready md ops d,n<=j):
  ∀ (f:Nat) (d:Array Bool) (a:Act) (w:World),HeadInv md ops n d->
    (∀j oj,ops[j]? =some oj->j≠i->d.getD j true=false->(∀e∈oj.after,Region.binds md e=true->e.on≠i)->z.apart ops oj=true)->
    i∈Region.ready md ops d->YieldsIf P ops S z v a->S w->
    Qz P md ops Q S n L f (d.setIfInBounds i true) (a.put z.dst v) w->Qz P md ops Q S n L (f+1) d a w:=by
 intro f
 induction f with
 |zero=>
  intro d a w q _ hr I A H;have g:=(mem_ready.1 hr).1;refine⟨fun h=>(by rw[h]at hr;cases hr),fun j x=>?_⟩;have p:j<n:=by
    rcases Nat.lt_or_ge j n with h | h
    · exact h
    · exact absurd x (tail_waits R N O q _ i rfl C g j h)
  refine⟨p,?_⟩;by_cases hji:j=i
  · subst hji;exact I.wpOp hi A ⟨A,H⟩
  · have:=u _ _ _ H j (ready_mono x hji)
    omega
 |succ f ih=>
  intro d a w q l hr I A H;have g:=(mem_ready.1 hr).1;refine⟨fun h=>(by rw[h]at hr;cases hr),fun j x=>?_⟩;have p:j<n:=by
    rcases Nat.lt_or_ge j n with h | h
    · exact h
    · exact absurd x (tail_waits R N O q _ i rfl C g j h)
  refine⟨p,?_⟩;by_cases hji:j=i
  · subst hji;exact I.wpOp hi A ⟨A,H⟩
  · have E:=(H.2 j (ready_mono x hji)).2
    obtain⟨r,oj,y,B⟩:=mem_ready.1 x;have D:∀e∈oj.after,Region.binds md e=true->e.on≠i:=fun e X W J=>by
     have E:=B e X W;rw[J,getD_both g]at E;cases E
    have U:=wpOp_putIf y (l j oj y hji r D) (fun cs b=>t i z cs b hi) (fun cs b=>t j oj cs b y) V I E;have m:∀k ok,ops[k]? =some ok->k≠i->(d.setIfInBounds j true).getD k true=false->
      (∀e∈ok.after,Region.binds md e=true->e.on≠i)->z.apart ops ok=true:=fun k ok Y K g M=>by
     refine l k ok Y K ?_ M;by_cases hjk:j=k
     · subst hjk;exact r
     · rw[getD_set_ne true hjk]at g;exact g
    refine wpOp_mono (fun T w' G=>⟨G.2.1,ih (d.setIfInBounds j true) T w' (q.set x p) m (ready_mono hr (Ne.symm hji)) G.1 G.2.1 ?_⟩) U;rw[Array.setIfInBounds_comm _ _ hji];exact G.2.2
def HG (P:Program) (md:Region.Mode) (ops:Array Oper) (Q:Exit->Act->World->Prop) (S:World->Prop) (n g:Nat) (tl:List Oper) (f:Nat) (listed:Array Bool) (a:Act) (w:World):Prop:=
 HeadInv md ops n listed->Qz P md ops Q S n (fun listed' a' w'=>Region.seqB md ops g n listed'=true/\wpList P ops Q tl a' w') f listed a w
def tailB (md:Region.Mode) (ops:Array Oper) (n:Nat):Bool:=Region.noSelect ops&&decide (n<ops.size)&&Region.sinkB md ops n&&Region.chainB md ops n
variable {n g:Nat} {tl:List Oper}
theorem HG.take (i:Nat) {m:Oper} {v:Value} {f:Nat} {b:Array Bool} {a:Act} {w:World} (hi:ops[i]? =some m) (o:tailB md ops n=true) (d:decide (i<n)=true)
  (u:Region.free md ops b i=true) (hr:(Region.ready md ops b).contains i=true) (q:∀c a w,Q (.panic c) (a.put m.dst v) w->Q (.panic c) a w) (z:YieldsIf P ops S m v a) (r:S w)
  (h:HG P md ops Q S n g tl f (b.setIfInBounds i true) (a.put m.dst v) w):HG P md ops Q S n g tl (f+1) b a w:=by
 simp only[tailB,Bool.and_eq_true,decide_eq_true_eq]at o;obtain⟨⟨⟨j,x⟩,y⟩,t⟩:=o;have d:=of_decide_eq_true d;intro l;have e:i∈Region.ready md ops b:=by simpa using hr
 exact Yv hi (Region.noSelect_spec j) q y t x d (fun _ _ _ p=>seqB_ready p.1) f b a w l (Region.free_spec hi u) e z r (h (l.set e d))
theorem HG.go (i:Nat) {o:Oper} {f:Nat} {b:Array Bool} {a:Act} {w:World} (q:ops[i]? =some o) (c:decide (i<n)=true) (hr:Region.ready md ops b= [i])
  (h:∀K':Act->World->Prop,Shut (∀a w,S w->(S w->HG P md ops Q S n g tl f (b.setIfInBounds i true) a w)->K' a w)->if Region.wanted o (yielded ops a.tmps)=true then Oper.wp P o a w K' Q else K' (a.put o.dst undef) w):
  HG P md ops Q S n g tl (f+1) b a w:=by
 intro d;have c:=of_decide_eq_true c;have hi:i∈Region.ready md ops b:=by rw[hr];simp
 refine⟨by rw[hr];simp,fun j l=>?_⟩;rw[hr]at l;obtain rfl:=List.mem_singleton.1 l;exact⟨c,wpOp_step q (fun K' m=>h K' (fun a w e p=>m a w ⟨e,p e (d.set hi c)⟩))⟩
theorem HG.done {b:Array Bool} {a:Act} {w:World} (c:Region.seqB md ops g n b=true) (h:wpList P ops Q tl a w):HG P md ops Q S n g tl 0 b a w:=fun _=>⟨c,h⟩
theorem enter {id:Nat} {a:Act} {w:World} {l:List Oper} (n:Nat) (r:P.follows .mixedOrders=true) (p:tailB .any l.toArray n=true) (q:S w.drew)
  (h:S w.drew->HG P .any l.toArray Q S n (l.drop n).length (l.drop n) n (Array.replicate l.length false) a w.drew):(Code.region id l.toArray true).wp P Q a w:=by
 have c:=p;simp only[tailB,Bool.and_eq_true,decide_eq_true_eq]at c;obtain⟨⟨⟨m,u⟩,B⟩,A⟩:=c;have x:n<l.length:=by simpa using u
 have d:HeadInv .any l.toArray n (Array.replicate l.length false):=
  ⟨by simp,fun j C _ i=>(by rw[getD_replicate_false]at i;cases i),fun t _ y=>getD_in (by simpa using y) (getD_replicate_false _ _)⟩
 have H:=h q d;refine wp_region_any r ?_;have:=Nh (Q:=Q) (g:=(l.drop n).length) (fun b o z e=>wpAny_of_seq (md:=.any) (Q':=Q) (l.drop n) n b o z (fun j=>by simp[List.getElem?_drop]) e.1 e.2) _ _ _ _ H;rw[show n+(l.drop n).length=l.toArray.size by simp;omega]at this;simpa using this
end
end HeldTail
namespace ReMem
open Go Go.RowKit MatchMath
theorem LiesB.of_one {B:Nat->Prop} {w:World} (x:Re) (v:Value) (T:TypeId) (a:B w.heap.size) (b:Ag x) (c:LiesB B w v x.args):LiesB B (w.alloc (.cells (Bi v x).toArray T)) (.slice (some ⟨w.heap.size,0,none⟩) 1 1) [x]:=
 LiesB.one w.heap.size x v T (0,0) (heap_alloc_new w _) a b (c.stays ((Below.refl _ w).alloc ql _))
theorem TRow.stays {B:Nat->Prop} {w b:World} {base:Nat} {v:Value} {l:List Re} (h:TRow B w base v l) (a:qw w b):TRow B b base v l:=by
 obtain⟨m,g,hr,e,i⟩:=h;exact⟨m,g,hr.below a,e,fun j t u c d=>(i j t u c d).stays a⟩
theorem Gc (x:Re) {l h:Int} (b:W64 l) (a:W64 h):Ag (repT x l h):=by
 show W64 5/\W64 l/\W64 h/\W64 0;exact⟨⟨by decide,by decide⟩,b,a,⟨by decide,by decide⟩⟩
theorem Bb {B:Nat->Prop} {ops:Array Oper} {c:List Oper} {o:Oper} {a:Act} {Q:Exit->Act->World->Prop} (w:World) (g:o.guard=none) (s x:Operand)
  (q:o.op=.call {callee:=.builtin .append,args:=#[s,x],argTypes:=#[26,26]}) (base:Nat) (v:Value) (l:List Re) (t:a.eval s=v) (r:TRow B w base v l)
  (mv:Value) (m:List Re) (hx:a.eval x=mv) (hm:LiesB (fun b=>B b/\some b≠v.ownBlock) w mv m) (hsz:l.length+m.length<=1099511627776) (hb:base<=w.heap.size)
  (h:∀d e,TRow B e base d (l++m)->Chg (fun k=>some k=v.ownBlock) w e->Near w.heap.size v d->wpList Tryz.prog ops Q c (a.put o.dst d) e):wpList Tryz.prog ops Q (o::c) a w:=
 wpList_plain g fun K p=>Xx w s x q base v l t r mv m hx hm hsz hb fun d e i j n=>p _ _ (h d e i j n)
def put9 (w:World) (g:Nat) (u0 u1 u2 u3 u4 u5 u6 u7 u8:Value):World:=((((((((w.setCell ⟨g,0,none⟩ u0).setCell ⟨g,1,none⟩ u1).setCell ⟨g,2,none⟩ u2).setCell ⟨g,3,none⟩ u3).setCell ⟨g,4,none⟩ u4).setCell ⟨g,5,none⟩ u5).setCell ⟨g,6,none⟩ u6).setCell ⟨g,7,none⟩ u7).setCell ⟨g,8,none⟩ u8
theorem TB.put9 {w:World} {g:Nat} {n o p q r t u x y:Value} (h:TB w g [n,o,p,q,r,t,u,x,y]) (a b c d e i j l m:Value):
 TB (put9 w g a b c d e i j l m) g [a,b,c,d,e,i,j,l,m]:=((((((((h.set 0 a).set 1 b).set 2 c).set 3 d).set 4 e).set 5 i).set 6 j).set 7 l).set 8 m
theorem Av (w:World) (g:Nat) (i j l m n o p q r:Value):Chg (fun k=>k=g) w (put9 w g i j l m n o p q r):=by
 have t:∀ {a b c:World},Chg (fun k=>k=g) a b->Chg (fun k=>k=g) b c->Chg (fun k=>k=g) a c:=fun d e=>d.trans e (fun _ _ h=>h);exact t (t (t (t (t (t (t (t (Chg.setCell _ _ _ _) (Chg.setCell _ _ _ _)) (Chg.setCell _ _ _ _)) (Chg.setCell _ _ _ _)) (Chg.setCell _ _ _ _)) (Chg.setCell _ _ _ _)) (Chg.setCell _ _ _ _)) (Chg.setCell _ _ _ _)) (Chg.setCell _ _ _ _)
theorem TB.nine {w:World} {g:Nat} {a b c d e i j l m:Value} (h:TB w g [a,b,c,d,e,i,j,l,m]):
  w.cell? ⟨g,0,none⟩=some a/\w.cell? ⟨g,1,none⟩=some b/\w.cell? ⟨g,2,none⟩=some c/\w.cell? ⟨g,3,none⟩=some d/\w.cell? ⟨g,4,none⟩=some e/\w.cell? ⟨g,5,none⟩=some i/\w.cell? ⟨g,6,none⟩=some j/\w.cell? ⟨g,7,none⟩=some l/\w.cell? ⟨g,8,none⟩=some m:=
 ⟨h.at (k:=0) (by simp),h.at (k:=1) (by simp),h.at (k:=2) (by simp),h.at (k:=3) (by simp),h.at (k:=4) (by simp),h.at (k:=5) (by simp),h.at (k:=6) (by simp),h.at (k:=7) (by simp),h.at (k:=8) (by simp)⟩
theorem TB.free9 {w:World} {g:Nat} {cur:List Value} (h:TB w g cur):w.frozen? ⟨g,0,none⟩=false/\w.frozen? ⟨g,1,none⟩=false/\w.frozen? ⟨g,2,none⟩=false/\w.frozen? ⟨g,3,none⟩=false/\w.frozen? ⟨g,4,none⟩=false/\w.frozen? ⟨g,5,none⟩=false/\w.frozen? ⟨g,6,none⟩=false/\w.frozen? ⟨g,7,none⟩=false/\w.frozen? ⟨g,8,none⟩=false:=⟨h.free 0,h.free 1,h.free 2,h.free 3,h.free 4,h.free 5,h.free 6,h.free 7,h.free 8⟩
theorem TB.new (w:World) (a:List Value):TB (w.alloc (.cells a.toArray 28)) w.heap.size a:=heap_alloc_new w _
theorem TB.stays {w b:World} {g:Nat} {a:List Value} (h:TB w g a) (c:qw w b):TB b g a:=(c.block _ (qd h)).trans h
theorem TB.two (w:World) (a b:List Value):Hid (qw w ((w.alloc (.cells a.toArray 28)).alloc (.cells b.toArray 28)))/\Hid (TB ((w.alloc (.cells a.toArray 28)).alloc (.cells b.toArray 28)) (w.heap.size+1) b)/\Hid (TB ((w.alloc (.cells a.toArray 28)).alloc (.cells b.toArray 28)) w.heap.size a)/\Hid (w.heap.size+2<=((w.alloc (.cells a.toArray 28)).alloc (.cells b.toArray 28)).heap.size):=by
 refine⟨((Below.refl _ w).alloc ql _).alloc (by simp) _,?_,(TB.new w a).stays ((Below.refl _ _).alloc ql _),?_⟩
 ·have:=TB.new (w.alloc (.cells a.toArray 28)) b
  rw[show (w.alloc (.cells a.toArray 28)).heap.size=w.heap.size+1 from by simp]at this;exact this
 ·show _<=_
  simp
theorem TB.three (w:World) (a b xs:List Value):Hid (qw w (((w.alloc (.cells a.toArray 28)).alloc (.cells b.toArray 28)).alloc (.cells xs.toArray 28)))/\Hid (TB (((w.alloc (.cells a.toArray 28)).alloc (.cells b.toArray 28)).alloc (.cells xs.toArray 28)) (w.heap.size+1+1) xs)/\Hid (TB (((w.alloc (.cells a.toArray 28)).alloc (.cells b.toArray 28)).alloc (.cells xs.toArray 28)) (w.heap.size+1) b)/\Hid (TB (((w.alloc (.cells a.toArray 28)).alloc (.cells b.toArray 28)).alloc (.cells xs.toArray 28)) w.heap.size a)/\Hid (w.heap.size+3<=(((w.alloc (.cells a.toArray 28)).alloc (.cells b.toArray 28)).alloc (.cells xs.toArray 28)).heap.size):=by
 obtain⟨d,e,g, -⟩:=TB.two w a b;have c:=(Below.refl _ ((w.alloc (.cells a.toArray 28)).alloc (.cells b.toArray 28))).alloc ql (.cells xs.toArray 28);refine⟨d.out.alloc (by simp[Nat.add_assoc]) _,?_,e.out.stays c,g.out.stays c,?_⟩
 ·have:=TB.new ((w.alloc (.cells a.toArray 28)).alloc (.cells b.toArray 28)) xs
  rw[show ((w.alloc (.cells a.toArray 28)).alloc (.cells b.toArray 28)).heap.size=w.heap.size+1+1 from by simp]at this;exact this
 ·show _<=_
  simp
theorem TB.chg {C:Nat->Prop} {w b:World} {g:Nat} {a:List Value} (h:TB w g a) (c:Chg C w b) (d:¬C g):TB b g a:=(c.block _ (qd h) d).trans h
theorem TB.lt {w:World} {g:Nat} {a:List Value} (h:TB w g a):g<w.heap.size:=(qd h)
end ReMem
end Go.Proofs.YtjefcpjciogcjaaGreatDoor
