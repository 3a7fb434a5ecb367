/- Lemmas for the walk of the law, in 2 parts. No condition beyond what each states. -/
import Derived.Test.YtjefcpjciogcjaaGreatDoorG38
import Derived.Scope
namespace Go.Proofs.YtjefcpjciogcjaaGreatDoor
set_option maxRecDepth 100000
set_option linter.unusedVariables false
namespace Cx
open Go
section
variable {P:Program} {G:Gl} {rec:Rec} {ops:Array Oper} {anc:List Nat} {st:Nat->DS} {E0:Em} {w0:World} {L:List Nat}
theorem Sf {k:Nat} {o:Oper} (h:Uy anc k o=true):(∀e∈o.after,Region.binds .any e=true->e.on<k)/\
  ∀j,j<k->Ht anc j k=true->∃e∈o.after,Region.binds .any e=true/\(e.on=j\/(Ht anc j e.on=true/\j<e.on)):=by
 unfold Uy at h;rw[Bool.and_eq_true]at h;obtain⟨d,g⟩:=h;rw[List.all_eq_true]at d g;refine⟨fun e c l=>?_,fun j m i=>?_⟩
 ·have:=d e (by simpa using c)
  rw[l]at this;simpa [Nat.blt_eq] using this
 ·have:=g j (List.mem_range.2 m)
  rw[i]at this;simp only[Bool.not_true,Bool.false_or]at this;rw[List.any_eq_true]at this;obtain⟨e,c,a⟩:=this;rw[Bool.and_eq_true,Bool.or_eq_true,Bool.and_eq_true,Nat.blt_eq]at a;refine⟨e,by simpa using c,a.1,?_⟩;rcases a.2 with b | b
  · exact .inl (Bs b)
  · exact .inr b
theorem inv_all {D:Nat->Bool} {E:Em} {a:Act} {w:World} (J:Inv ops st E0 w0 L D E a w) (h:∀i,i<ops.size->D i=true):Inv ops st E0 w0 L (fun _=>true) E a w:=by
 have c:mixH ops st D=mixH ops st (fun _=>true):=funext fun b=>Qe ops.size fun i hi _=>h i hi;have d:mixT ops st D=mixT ops st (fun _=>true):=funext fun b=>Qe ops.size fun i hi _=>h i hi;exact⟨by rw[<- c];exact J.tx,J.size,by rw[<- d];exact J.get,J.defers,fun k _ e=>by cases e⟩
theorem Rh {a:Array Bool} {k:Nat} (h:k<a.size) (b c:Bool):a.getD k b=a.getD k c:=by
 simp[Array.getD_eq_getD_getElem?,h]
theorem drawn_wp (Z:Line P G rec ops anc st) (I:Root G ops st E0 w0 L) {Q:Exit->Act->World->Prop} (S:∀E a w,Inv ops st E0 w0 L (fun _=>true) E a w->Q .normal a w):
  ∀ (d:Nat) (b:Array Bool) (E:Em) (a:Act) (w:World),b.size=ops.size->(∀k j,j<k->b.getD k false=true->Ht anc j k=true->b.getD j false=true)->
    (List.range ops.size).countP (fun i=> !b.getD i false)<=d->Inv ops st E0 w0 L (fun i=>b.getD i false) E a w->wpAny P .any ops Q d b a w:=by
 have h:∀(b:Array Bool),b.size=ops.size->Region.ready .any ops b= []->∀i,i<ops.size->b.getD i false=true:=by
  intro b A hr i
  induction i using Nat.strongRecOn with
  | _ i ih=>
    intro hi;cases hd:b.getD i false with
    | true=>rfl
    |false=>
     exfalso;obtain⟨o,t⟩:=Kq hi;have:i∈Region.ready .any ops b:=mem_ready.2 ⟨by rw[Rh (by omega) true false];exact hd,o,t,fun e N M=>by
      have:=(Sf (Z.ancs i o t)).1 e N M;exact ih e.on this (by omega)⟩
     rw[hr]at this;cases this
 intro d
 induction d with
 |zero=>
  intro b E a w A _ Y J;have m:∀i,i<ops.size->b.getD i false=true:=by
    intro i hi;cases hd:b.getD i false with
    | true=>rfl
    |false=>
     exfalso;have:0< (List.range ops.size).countP (fun i=> !b.getD i false):=List.countP_pos_iff.2 ⟨i,List.mem_range.2 hi,by simp only[hd];rfl⟩;omega
  refine⟨?_,S E a w (inv_all J m)⟩;cases hr:Region.ready .any ops b with
  | nil=>rfl
  | cons i r=>
    exfalso;have:i∈Region.ready .any ops b:=by rw[hr];simp
    obtain⟨B,o,t,_⟩:=mem_ready.1 this;have hi:i<ops.size:=(qd t);rw[Rh (by omega) true false,m i hi]at B;cases B
 |succ d ih=>
  intro b E a w A u Y J;refine⟨fun hr=>S E a w (inv_all J (h b A hr)),fun k hk=>?_⟩;obtain⟨B,o,t,W⟩:=mem_ready.1 hk;have z:k<ops.size:=(qd t);have l:b.getD k false=false:=by rw[Rh (by omega) false true];exact B
  obtain⟨_,y⟩:=Sf (Z.ancs k o t);have mine:∀j,j<k->Ht anc j k=true->b.getD j false=true:=by
    intro j n x;obtain⟨e,N,M,D⟩:=y j n x;have R:=W e N M;rcases D with rfl | ⟨D,X⟩
    · exact R
    · exact u e.on j X R D
  have C:Closed anc (fun i=>b.getD i false) k:=⟨l,mine,fun i K O=>by
    cases x:Ht anc k i with
    | false=>rfl
    | true=>rw[u i k O K x]at l;cases l⟩
  have g:∀i,i≠k->(b.setIfInBounds k true).getD i false=b.getD i false:=fun i hi=>getD_set_ne false (Ne.symm hi);have c:(b.setIfInBounds k true).getD k false=true:=by simp[A,z]
  refine inv_step Z I t C (D':=fun i=>(b.setIfInBounds k true).getD i false) c g J fun T V w' U=>ih _ T V w' (by simp[A]) ?_ ?_ U
  · intro i j n hi x
    by_cases hik:i=k
    ·subst hik
     rw[g j (by omega)];exact mine j n x
    ·rw[g i hik]at hi
     by_cases hjk:j=k
     · subst hjk;exact c
     ·rw[g j hjk]
      exact u i j n hi x
  · have:=Vs (p:=fun i=> !b.getD i false) (q:=fun i=> !(b.setIfInBounds k true).getD i false) (i:=k) ?_ ?_ ?_ (List.range ops.size) (List.mem_range.2 z)
    · omega
    ·intro j n
     by_cases hjk:j=k
     · subst hjk;simp only[c]at n;cases n
     · simpa only[g j hjk] using n
    · simp only[l];rfl
    · simp only[c];rfl
theorem Om (R:Good P G rec) {f f':AF} {s g:HS} (h:Qm P G rec ops anc f s=some (f',g)):∃st:Nat->DS,Line P G rec ops anc st/\(st 0).f=f/\(st 0).s=s/\(st ops.size).f=f'/\(st ops.size).s=g:=by
 unfold Qm at h;split at h
 · cases h
 ·rename_i j
  split at h
  ·rename_i d i
   cases h
   obtain⟨st,e,sn,c⟩:=Mj _ 0 _ _ i;have a:=Tu _ 0 j;refine⟨st,⟨R,fun k o b=>drawn1_one R ?_,by rw[e],fun k o b=>?_,fun k o b=>?_⟩,by rw[e],by rw[e],?_,?_⟩
   ·have:=c k o (by simpa using b)
    rwa [Nat.zero_add]at this
   ·have:=(a k o (by simpa using b)).1
    rwa [Nat.zero_add]at this
   ·have:=(a k o (by simpa using b)).2
    rwa [Nat.zero_add]at this
   · rw[<- sn];simp
   · rw[<- sn];simp
  · cases h
theorem Line.keeps (Z:Line P G rec ops anc st):∀k,k<=ops.size->∃l,Keeps (st 0).s (st k).s l
 | 0,_=>⟨[],Keeps.refl _⟩
 |k+1,hk=>by
  obtain⟨l,K⟩:=Z.keeps k (by omega);obtain⟨o,e⟩:=Kq (ops:=ops) (k:=k) (by omega);cases Z.one k o e with
  | off _ _ h1 _=>rw[h1];exact⟨l,K⟩
  | val _ _ _ _ _ h1 _=>rw[h1];exact⟨l,K⟩
  |heap v t rem nms _ _ H=>
   refine⟨_,K.trans (t:=(st k).s) (m:=t.log) ⟨Z.next1 (by omega),H.log,fun b a c=>H.keep b fun d=>?_⟩⟩;rw[H.next]at a;rcases (H.names b).1 d with h | h
   · omega
   · exact c h
theorem runDrawn_wp (x:P.follows .mixedOrders=true) (R:Good P G rec) {f f':AF} {s e:HS} (h:Qm P G rec ops anc f s=some (f',e)) {l:List Nat} (u:e.log=l++s.log) {E:Em} {w:World} {a:Act} {id:Nat}
  (H:HR E s.at w) (T:TR E f a) (o:GL E G) (D:DR E f.defers a.defers) (F:Fresh E s.next e.next):(Code.region id ops true).wp P (Post E s w .normal f' e l) a w:=by
 obtain⟨c,Z,rfl,rfl,rfl,rfl⟩:=Om R h;have I:Root G ops c E {w with drawn:=w.drawn+1} l:=⟨H.world rfl,o,F,u⟩;refine wp_region_any x (drawn_wp Z I ?_ ops.size _ E a _ (by simp) ?_ ?_ ?_)
 ·intro m y z J
  refine⟨rfl,m,?_,⟨?_,?_⟩,?_⟩
  ·have g:mixH ops c (fun _=>true)=(c ops.size).s.at:=funext fun b=>(Z.heap b ops.size ql).symm
   have:=J.tx;rw[g]at this;exact this.drewL
  · rw[J.size,(Z.frame ops.size ql).1]
  ·intro t
   rw[Z.tmps t ops.size ql];exact J.get t
  ·rw[(Z.frame ops.size ql).2]
   exact J.defers
 ·intro k j _ d _
  exfalso;rw[Array.getD_eq_getD_getElem?,Array.getElem?_replicate]at d;split at d <;> cases d
 · exact Nat.le_trans List.countP_le_length (by simp)
 ·have q:(fun i=>(Array.replicate ops.size false).getD i false)=fun _=>false:=by
   funext i
   rw[Array.getD_eq_getD_getElem?,Array.getElem?_replicate];split <;> rfl
  rw[q];have g:mixH ops c (fun _=>false)=(c 0).s.at:=funext fun b=>mix_none ops.size;have p:mixT ops c (fun _=>false)=(c 0).f.get:=funext fun b=>mix_none ops.size;refine⟨?_,T.size,fun t=>by rw[p];exact T.get t,D,fun k d _=>?_⟩
  ·rw[g]
   have n:HR E (c 0).s.at {w with drawn:=w.drawn+1}:=H.world rfl;exact (Tx.wide n (Z.next (i:=0) ops.size (Nat.zero_le _) ql)).weaken fun b r=>by cases r
  · exact F.sub (Z.next (i:=0) k (by omega) (by omega)) (Z.next (i:=k+1) ops.size (by omega) ql)
end
end Cx
namespace Cx
open Go
section
variable {P:Program} {G:Gl} {rec:Rec}
theorem Pa (R:Good P G rec) {c:Code}:∀(n:Nat) (f f':AF) (s a:HS) (x:AX),iter rec c n f s=some (x,f',a)->∃l,Keeps s a l
 | 0,f,f',s,a,x,h=>by cases h
 |n+1,f,f',s,a,x,h=>by
  unfold iter at h;split at h
  ·rename_i f1 s1 hr
   obtain⟨l1,k1⟩:=R.keep hr;obtain⟨l2,k2⟩:=Pa R n _ _ _ _ _ h;exact⟨_,k1.trans k2⟩
  · rename_i hr;cases h;exact R.keep hr
  · rename_i hr;cases h;exact R.keep hr
  · cases h
theorem iter_wp (R:Good P G rec) {c:Code}:∀(n:Nat) (f f':AF) (s j:HS) (x:AX),iter rec c n f s=some (x,f',j)->∀(l:List Nat),j.log=l++s.log->∀ {E:Em} {w:World} {a:Act},
  HR E s.at w->TR E f a->GL E G->DR E f.defers a.defers->Fresh E s.next j.next->
   ∀(b:Frame) (k:List Item) (cs:List Frame),∃e a' w',Post E s w x f' j l e a' w'/\Arrives P (lone (b.at a (.code c:: .inLoop c::k)) cs w) b k cs e a' w'
 | 0,f,f',s,j,x,h=>by cases h
 |n+1,f,f',s,j,x,h=>by
  intro l hl E w a H T L D F b k cs;unfold iter at h;split at h
  ·rename_i f1 s1 hr
   obtain⟨l1,k1⟩:=R.keep hr;obtain⟨l2,k2⟩:=Pa R n _ _ _ _ _ h;have z:l=l2++l1:=cancel (c:=s.log) (by rw[<- hl,k2.log,k1.log,List.append_assoc]);subst z;obtain⟨e,o,p,⟨rfl,M,m,t,q⟩,d⟩:=R.wp hr k1.log H T L D (F.sub ql k2.le) b (.inLoop c::k) cs;obtain⟨J,I,K,⟨y,B,C,u,r⟩,g⟩:=iter_wp R n _ _ _ _ _ h _ k2.log m.hr t (L.ext m.ext) q (F.after m) b k cs;exact⟨J,I,K,⟨y,B,m.trans C,u,r⟩,.of_steps (Steps.trans d (.one step_inLoop)) g⟩
  ·rename_i i f1 s1 hr
   cases h
   obtain⟨e,o,p,⟨rfl,A⟩,d⟩:=R.wp hr hl H T L D F b (.inLoop c::k) cs;exact⟨_,o,p,⟨rfl,A⟩,.pass (x:=.inLoop c) rfl (fun _ _=>.inl (by simp[AX.out])) d⟩
  ·rename_i f1 s1 hr
   cases h
   obtain⟨e,o,p,⟨rfl,A⟩,d⟩:=R.wp hr hl H T L D F b (.inLoop c::k) cs;exact⟨_,o,p,⟨rfl,A⟩,.pass (x:=.inLoop c) rfl (fun _ _=>.inl (by simp[AX.out])) d⟩
  · cases h
theorem Post.refl {E:Em} {s:HS} {w:World} {f:AF} {l:List Nat} {a:Act} (b:s.log=l++s.log) (H:HR E s.at w) (T:TR E f a) (D:DR E f.defers a.defers) (x:AX):Post E s w x f s l x.out a w:=by
 have:l= []:=cancel (c:=s.log) (by rw[<- b];rfl);subst this;exact⟨rfl,E,Tx.refl _ H,T,D⟩
theorem step_good (hm:P.follows .mixedOrders=true) (n:Nat) (R:Good P G rec):Good P G (step P G n rec):=by
 refine⟨R.known,?_,?_⟩
 ·intro c f s x u y h
  unfold step at h;split at h
  · cases h;exact⟨[],Keeps.refl _⟩
  · cases h;exact⟨[],Keeps.refl _⟩
  ·split at h
   · rename_i hr;cases h;exact Gw R _ _ _ _ _ hr
   · cases h
  ·split at h
   ·rename_i hr
    cases h
    obtain⟨st,Z,rfl,rfl,rfl,rfl⟩:=Om R hr;exact Z.keeps _ ql
   · cases h
  ·split at h
   ·rename_i hr
    obtain⟨l1,k1⟩:=R.keep hr;obtain⟨l2,k2⟩:=R.keep h;exact⟨_,k1.trans k2⟩
   · rename_i hr;cases h;exact R.keep hr
   · rename_i hr;cases h;exact R.keep hr
   · cases h
  ·split at h
   · exact R.keep h
   · exact R.keep h
   · cases h
  ·split at h
   ·rename_i hr
    split at h
    · cases h;exact R.keep hr
    · cases h;exact R.keep hr
   · rename_i hr;cases h;exact R.keep hr
   · rename_i hr;cases h;exact R.keep hr
   · cases h
  · exact Pa R _ _ _ _ _ _ h
  · cases h;exact⟨[],Keeps.refl _⟩
  · cases h;exact⟨[],Keeps.refl _⟩
  · exact R.keep h
  · cases h
 ·intro c f s x u y h l d E w a H T L D F
  unfold step at h;split at h
  · cases h;exact wp_skip (Post.refl d H T D .normal)
  · cases h;exact wp_label (Post.refl d H T D .normal)
  ·rename_i id ops
   split at h
   ·rename_i j o hr
    cases h
    refine wp_region ?_;have:=Nr R (ops:=ops) (Q:=Post E s w .normal u y l) ops.toList 0 f u s y a E w l rfl hr d H T L D F fun z M O U Y X=>⟨rfl,O,U,Y,X⟩;simpa [List.range_eq_range'] using this
   · cases h
  ·split at h
   ·rename_i j o hr
    cases h
    exact runDrawn_wp hm R hr d H T L D F
   · cases h
  ·rename_i c1 c2
   split at h
   ·rename_i j o hr
    obtain⟨l1,k1⟩:=R.keep hr;obtain⟨l2,k2⟩:=R.keep h;have K:l=l2++l1:=cancel (c:=s.log) (by rw[<- d,k2.log,k1.log,List.append_assoc]);subst K;refine wp_seq (wp_mono (R.wp hr k1.log H T L D (F.sub ql k2.le)) ?_);rintro e p q ⟨rfl,E1,t,C,A⟩;refine wp_mono (R.wp h k2.log t.hr C (L.ext t.ext) A (F.after t)) ?_;rintro e a2 w2 ⟨rfl,S,V,I,B⟩;exact⟨rfl,S,t.trans V,I,B⟩
   ·rename_i i j o hr
    cases h
    refine wp_seq (wp_mono (R.wp hr d H T L D F) ?_);rintro e p q ⟨rfl,g⟩;exact⟨rfl,g⟩
   ·rename_i j o hr
    cases h
    refine wp_seq (wp_mono (R.wp hr d H T L D F) ?_);rintro e p q ⟨rfl,g⟩;exact⟨rfl,g⟩
   · cases h
  ·rename_i c0 c1 c2
   split at h
   ·rename_i m J
    have:=Vz T L m;rw[J]at this;exact wp_cond (Im this) (R.wp h d H T L D F)
   ·rename_i m J
    have:=Vz T L m;rw[J]at this;exact wp_cond (Im this) (R.wp h d H T L D F)
   · cases h
  ·rename_i id c1
   split at h
   ·rename_i i j o hr
    split at h
    ·rename_i hi
     cases h
     refine wp_block (wp_mono (R.wp hr d H T L D F) ?_);rintro e p q ⟨rfl,g⟩;simp only[AX.out,Exit.inBlock,Bs hi,if_true];exact⟨rfl,g⟩
    ·rename_i hi
     cases h
     refine wp_block (wp_mono (R.wp hr d H T L D F) ?_);rintro e p q ⟨rfl,g⟩;simp only[AX.out,Exit.inBlock,Mc hi,if_false];exact⟨rfl,g⟩
   ·rename_i j o hr
    cases h
    refine wp_block (wp_mono (R.wp hr d H T L D F) ?_);rintro e p q ⟨rfl,g⟩;exact⟨rfl,g⟩
   ·rename_i j o hr
    cases h
    refine wp_block (wp_mono (R.wp hr d H T L D F) ?_);rintro e p q ⟨rfl,g⟩;exact⟨rfl,g⟩
   · cases h
  ·rename_i c1
   intro b k W;obtain⟨e,z,M,hq,r⟩:=iter_wp R n f u s y x h l d H T L D F b k W;exact⟨e,z,M,hq,.of_steps (.one step_loop) r⟩
  · cases h;exact wp_exit (Post.refl d H T D (.exit _))
  · cases h;exact wp_ret (Post.refl d H T D .ret)
  ·refine wp_scope_straight (wp_mono (R.wp h d H T L D F) ?_)
   rintro e z M g;have N:=g.1;cases x <;> (simp only[AX.out]at N;subst N;exact g)
  · cases h
theorem Xd (b:P.follows .mixedOrders=true) (a:∀x∈G.known,KOk P G.vars x/\x.n0<=x.n1):∀n,Good P G (run P G n)
 |0=>by
  refine⟨a,?_,?_⟩
  · intro c f s x f' s' h;cases h
  · intro c f s x f' s' h;cases h
 | n+1=>step_good b n (Xd b a n)
theorem Tx.shrink {E d:Em} {h g c:Hp} {w i:World} {n n':Nat} {l:List Nat} (A:Tx E h w n d g i n' l) (sub:∀b o,c b=some o->g b=some o) (old:∀b,b<n\/n'<=b->c b=h b):
  Tx E h w n d c i n' []:=
 ⟨A.le,A.ext,A.dom,A.hr.sub sub,fun b a _=>old b a,fun b o a=>A.domle b o (sub b o a),fun b o e j m a p=>A.news b o e j m (sub b o a) p,A.frame,A.size,A.os,A.tape,A.output⟩
def knows (P:Program) (G:Gl) (n:Nat) (x:Known):Bool:=match Sj P G (run P G n) x.fn x.args ⟨Ja x.inH .leaf,x.n0,[]⟩ with
 | some (v,s)=>veq v x.v&&(Nat.beq s.next x.n1&&(s.log.all (fun b=>Nat.ble x.n0 b&&Nat.blt b x.n1)&&(x.outH.all (fun p=>Nat.ble x.n0 p.1&&Nat.blt p.1 x.n1)&&(x.inH.all (fun p=>Nat.ble p.1 lim)&&Yz s x.outH))))
 | none=>false
theorem knows_ok (S:P.follows .mixedOrders=true) (M:∀x∈G.known,KOk P G.vars x/\x.n0<=x.n1) {n:Nat} {x:Known} (h:knows P G n x=true):KOk P G.vars x/\x.n0<=x.n1:=by
 unfold knows at h;split at h
 ·rename_i v s u
  simp only[Bool.and_eq_true]at h;obtain⟨A,B,C,D,I,J⟩:=h;have R:=Xd S M n;have U:=Xr A;have z:s.next=x.n1:=Bs B;have d:(⟨Ja x.inH .leaf,x.n0,[]⟩:HS).at=look x.inH:=by
   funext b
   unfold HS.at;show (Ja x.inH .leaf).get b=_;rw[Lp _ _ _ fun p q=>Cv (List.all_eq_true.1 I p q)];cases look x.inH b <;> rfl
  obtain⟨l,K⟩:=Sk R u;have O:l=s.log:=by have:=K.log;simpa using this.symm
  subst O;have Q:x.n0<=s.next:=K.le;refine⟨?_,by omega⟩;intro E w j H N L F;have c:=fun p q=>List.all_eq_true.1 D p q;refine Calls.mono (Mg R u (l:=s.log) (by simp) (E:=E) (w:=w) (by rw[d];exact H) N L (by rw[z];exact F)) ?_;rintro e X ⟨W,t,rfl,r,T⟩;refine⟨W,t,rfl,U▸r,?_⟩;rw[d]at T;have T:Tx E (look x.inH) w x.n0 t s.at X s.next s.log:=T;rw[z]at T;have g:∀b∈s.log,x.n0<=b/\b<x.n1:=fun b a=>by
   have:=List.all_eq_true.1 C b a;simp only[Bool.and_eq_true,Nat.blt_eq]at this;exact⟨Cv this.1,this.2⟩
  have i:∀b o,look x.outH b=some o->x.n0<=b/\b<x.n1:=fun b o a=>by
   have:=c _ (Kl _ _ _ a);simp only[Bool.and_eq_true,Nat.blt_eq]at this;exact⟨Cv this.1,this.2⟩
  refine T.shrink ?_ ?_
  ·intro b o a
   unfold Known.out at a;cases ho:look x.outH b with
   |some o'=>
    rw[ho]at a;cases a
    exact Os x.outH J (b,o) (Kl x.outH b o ho)
   |none=>
    rw[ho]at a;have a:look x.inH b=some o:=a;obtain⟨e,y,_⟩:=H.here b o a;have m:b<x.n0\/x.n1<=b:=by
     rcases Nat.lt_or_ge b x.n0 with h | h
     · exact .inl h
     ·rcases Nat.lt_or_ge b x.n1 with h' | h'
      · rw[F b h h']at y;cases y
      · exact .inr h'
    rw[T.keep b m fun V=>by have:=g b V;omega];exact a
  ·intro b a
   unfold Known.out;cases ho:look x.outH b with
   | some o=>have:=i b o ho;omega
   | none=>rfl
 · cases h
theorem run_calls (u:P.follows .mixedOrders=true) {K:List Known} (p:∀x∈K,KOk P [] x/\x.n0<=x.n1) {n g next:Nat} {args:List Value} {a:Array Value} {v:Value} {m:HS} (h:Sj P ⟨[],K⟩ (run P ⟨[],K⟩ n) g args ⟨.leaf,next,[]⟩=some (v,m)) (y:bare v=true)
  (q:a=args.toArray) (d:∀x∈args,bare x=true) (w:World):Calls P g a w fun e w'=>e=.returned v/\RowKit.Below w.heap.size w w':=by
 subst q;have R:=Xd (G:=⟨[],K⟩) u p n;have i:∀b,(⟨.leaf,next,[]⟩:HS).at b=none:=fun b=>rfl;refine Calls.mono (Mg R h (l:=m.log) (by simp) (E:=fun _=>none) (w:=w) ⟨fun b o d=>?_,fun b c o C e B d=>?_⟩ ?_ (fun g r=>by cases r) (fun b _ _=>rfl)) ?_
 · rw[i]at d;cases d
 · rw[i]at d;cases d
 ·have:=LR.self (E:=fun _=>none) fun x z=>Du x (d x z)
  simpa using this
 ·rintro e w' ⟨D,A,rfl,j,T⟩
  obtain rfl:=Pp y j;refine⟨rfl,T.os,T.tape,T.output,T.size,fun k t=>T.frame k t fun b o e d=>?_⟩;rw[i]at d;cases d
def wakes (P:Program) (K:List Known) (n g:Nat):Bool:=match Sj P ⟨[],K⟩ (run P ⟨[],K⟩ n) g [] ⟨.leaf,0,[]⟩ with
 | some (.bool true,_)=>true
 | _=>false
theorem wakes_calls (c:P.follows .mixedOrders=true) {K:List Known} (a:∀x∈K,KOk P [] x/\x.n0<=x.n1) {n g:Nat} (h:wakes P K n g=true) (w:World):Calls P g #[] w fun e w'=>e=.returned (.bool true)/\RowKit.Below w.heap.size w w':=by
 unfold wakes at h;split at h
 ·rename_i i b
  exact run_calls c a b rfl rfl (fun x d=>by cases d) w
 · cases h
end
end Cx
end Go.Proofs.YtjefcpjciogcjaaGreatDoor
