/- Lemmas for the walk of the law, in 5 parts. No condition beyond what each states. -/
import Derived.Test.YtjefcpjciogcjaaGreatDoorG14
import Derived.Test.YtjefcpjciogcjaaGreatDoorG8
import Derived.StillTail
import Derived.Test.YtjefcpjciogcjaaGreatDoorG5
namespace Go.Proofs.YtjefcpjciogcjaaGreatDoor
set_option maxRecDepth 100000
set_option linter.unusedVariables false
set_option maxHeartbeats 40000000
open Tryz
namespace ReMem
open Go Go.RowKit MatchMath
theorem parP1_any (s:ByteArray) (y:Bool) (k n:Nat) (hp:Fm s y k n) (e:Re) (O:e.op=1) (v sv:Value) (i:Nat) (l:List Span) (mm:Nat) (w:World) (a1:size e<n+1) (x:size e<=100) (C:gok k e=true) (r:Ag e) (hl:Lies w v e.args) (T:Al w sv l) (M:l.length=k) (N:SpOk s.size l) (hi:i<=s.size) (hm:TBox w mm s y) (S:Tabs w) (D:s.size<=4096) (K:k<=4096):
  Calls Tryz.prog 126 #[.pointer (some ⟨mm,0,none⟩),Ac v e,.int .i64 i,sv] w (PRes w ((tx s y).parses e i l)):=by
 obtain⟨o,p,lo,h,g,args⟩:=e;simp only[Re.op]at O;subst O;have a5:=qh r;unfold gok at C;simp only[Bool.and_eq_true]at C;obtain⟨⟨Q,b2,b3⟩,J⟩:=C;have u:∀t∈args,size t<n:=fun t S=>by have:=Bo (e:=.mk 1 p lo h g args) S;omega
 have b5:args.length<=100:=by have h1:=Ea args;rw[size]at x;omega
 have b1:args.length<=9223372036854775807:=by omega
 have d:Hid ((tx s y).parses (.mk 1 p lo h g args) i l=(tx s y).node 1 p lo h g (Ap (.mk 1 p lo h g args)) ((tx s y).parsesL args) i l):=by show _=_;rw[Text.parses]
 have a0:(tx s y).s.length=s.size:=Ce s;have j:=qh (fun v L W (hb:qw w W) (h:PLies W v L) (hL:L.length<=1099511627776) (hg:GP s.size k L)=>Fg s.size k v L w.heap.size w W hb rfl S h hL hg D K);have HS:=qh T;have HL:=qh hl;have V:=qh N;have U:=qh M;have a8:=qh D;have a7:=qh K;have HM:=qh hm;have b0:=qh S;have a6:=qh J;have a9:=qh u;have a2:=qh hp;have a3:=Dh Q;obtain⟨va,vc,rfl⟩:=hl.shape;obtain⟨sa,sc,rfl⟩:=T.shape;have a4:=T.len.2;have b4:(i:Int)<=(s.size:Int):=by omega
 have b6:(s.size:Int)<=4096:=by omega
 unfold Ac;simp only[Re.op,Re.set,Re.lo,Re.hi,Re.group,Re.args]at*;obtain⟨R,hR⟩:∃R,(tx s y).parses (.mk 1 p lo h g args) i l=R:=⟨_,rfl⟩;rw[hR]at d ⊢;clear hR T hl N Q D M K hm S J u hp a1 x r;generalize hx0:Sets.Aa p 0=x0 at*;generalize hx1:Sets.Aa p 1=x1 at*;generalize hx2:Sets.Aa p 2=x2 at*;generalize hx3:Sets.Aa p 3=x3 at*;clear hx0 hx1 hx2 hx3;have a:=qh (PW.new w 1 x0 x1 x2 x3 lo h g (.slice va args.length vc) i (.slice sa l.length sc));go_enter func126,ntmps126
 go_upto_region 4 with fail
 generalize ((w.alloc (.cells #[.int .i64 1,.int .u64 x0,.int .u64 x1,.int .u64 x2,.int .u64 x3,.int .i64 lo,.int .i64 h,.int .i64 g,.slice va args.length vc] 28)).alloc (.cells #[.int .i64 (i:Int),.slice sa l.length sc] 119)).alloc (.cells #[.slice none 0 0] 115)=w3 at*;obtain⟨d0,d1,d2,d3,d4,d5,d6,d7,d8,b7⟩:=a.o.box;have h0:w3.cell? ⟨w.heap.size+1,0,none⟩=some (.int .i64 (i:Int)):=by rw[qc a.o.here];rfl
 have h1:w3.cell? ⟨w.heap.size+1,1,none⟩=some (.slice sa l.length sc):=by rw[qc a.o.here];rfl
 have Y:=qh (HS.o.stays a.o.bel);have G:Hid (R=done s.size [(i,l)]):=by show _=_;rw[d.o];unfold Text.node;simp only[if_true];rw[a0]
 have q:=qh (Fx (w.heap.size+1+1) _ _ [] (i,l) w3 a.o.out Y.o (by simp));have E:=qh (GP.one hi U.o V.o);cases hd:R with
 |none=>
  go_wp2_with (first
  | (go_at_call 165
     (refine q.o.mono ?_);rintro e5 w5 ⟨rfl,⟨v5,b⟩,m⟩;have A:=qh b;have c:=qh (a.o.bel.trans (m.below (by have:=a.o.sz;omega) (fun k K e=>by
      rcases e with e | e
      · omega
      · cases e)))
     have o5:=b.cell;clear b m))
  go_wp2_with (first
  | (go_at_call 172
     (refine (j.o _ [(i,l)] _ c.o A.o.2.lies (by simp) E.o).mono ?_);rintro e9 w9 ⟨I,B⟩;rw[<- G.o,hd]at I;obtain rfl:e9=.panicked [{v:=Value.iface 184 (.agg #[]),recovered:=false}]:=I;have z:=qh (Ab c.o B)))
  refine⟨rfl,?_⟩;try rw[hd]
  exact⟨rfl,z.o⟩
 |some m9=>
  go_wp2_with (first
  | (go_at_call 165
     (refine q.o.mono ?_);rintro e5 w5 ⟨rfl,⟨v5,b⟩,m⟩;have A:=qh b;have c:=qh (a.o.bel.trans (m.below (by have:=a.o.sz;omega) (fun k K e=>by
      rcases e with e | e
      · omega
      · cases e)))
     have o5:=b.cell;clear b m))
  go_wp2_with (first
  | (go_at_call 172
     (refine (j.o _ [(i,l)] _ c.o A.o.2.lies (by simp) E.o).mono ?_);rintro e9 w9 ⟨I,B⟩;rw[<- G.o,hd]at I;obtain⟨v9,rfl,P⟩:=I;have X:=qh (P.mono (show w.heap.size<=_ from (c.o).size));have z:=qh (Ab c.o B);clear P))
  go_ret;try rw[hd]
  exact⟨⟨_,rfl,X.o⟩,z.o⟩
end ReMem
namespace Quietly
open Go Go.RowKit
section
variable {P:Program} {ops:Array Oper} {md:Region.Mode} {C:World->Prop}
def Ra (P:Program) (md:Region.Mode) (ops:Array Oper) (C:World->Prop) (n:Nat) (L:Array Bool->Act->Prop):Nat->Array Bool->Act->Prop
 | 0,listed,a=>L listed a
 | f+1,listed,a=>Region.ready md ops listed≠ []/\∀i∈Region.ready md ops listed,i<n/\qOp P ops C i (Ra P md ops C n L f (listed.setIfInBounds i true)) a
theorem Ng {n g:Nat} {L:Array Bool->Act->Prop} {Q':Exit->Act->World->Prop} (c:∀b a w,C w->L b a->wpAny P md ops Q' g b a w):
  ∀(f:Nat) (b:Array Bool) (a:Act) (w:World),C w->Ra P md ops C n L f b a->wpAny P md ops Q' (f+g) b a w
 | 0,b,a,w,hw,h=>by rw[Nat.zero_add];exact c _ _ _ hw h
 |f+1,b,a,w,hw,h=>by
  rw[show f+1+g=(f+g)+1 by omega];exact⟨fun h0=>absurd h0 h.1,fun i hi=>wpOp_of_qOp hw (fun a' w' hw' h'=>Ng c f _ a' w' hw' h') (h.2 i hi).2⟩
theorem Yw {n i:Nat} {y:Oper} {v:Value} {L:Array Bool->Act->Prop} (hi:ops[i]? =some y) (r:∀(j:Nat) (o:Oper) cs b,ops[j]? =some o->o.op≠ .select cs b)
  (O:Region.sinkB md ops n=true) (M:Region.chainB md ops n=true) (N:n<ops.size) (A:i<n)
  (t:∀c a,L c a->∀j∈Region.ready md ops c,n<=j):
  ∀ (f:Nat) (c:Array Bool) (a:Act),HeadInv md ops n c->
    (∀j oj,ops[j]? =some oj->j≠i->c.getD j true=false->(∀e∈oj.after,Region.binds md e=true->e.on≠i)->y.apart ops oj=true)->
    i∈Region.ready md ops c->YieldsIn P ops C y v a->
    Ra P md ops C n L f (c.setIfInBounds i true) (a.put y.dst v)->Ra P md ops C n L (f+1) c a:=by
 intro f
 induction f with
 |zero=>
  intro c a p _ hr E H;have d:=(mem_ready.1 hr).1;refine⟨fun h=>(by rw[h]at hr;cases hr),fun j u=>?_⟩;have m:j<n:=by
    rcases Nat.lt_or_ge j n with h | h
    · exact h
    · exact absurd u (tail_waits O M N p _ i rfl A d j h)
  refine⟨m,?_⟩;by_cases hji:j=i
  · subst hji;exact E.qOp hi H
  · have:=t _ _ H j (ready_mono u hji)
    omega
 |succ f ih=>
  intro c a p g hr E H;have d:=(mem_ready.1 hr).1;refine⟨fun h=>(by rw[h]at hr;cases hr),fun j u=>?_⟩;have m:j<n:=by
    rcases Nat.lt_or_ge j n with h | h
    · exact h
    · exact absurd u (tail_waits O M N p _ i rfl A d j h)
  refine⟨m,?_⟩;by_cases hji:j=i
  · subst hji;exact E.qOp hi H
  · have D:=(H.2 j (ready_mono u hji)).2
    obtain⟨q,oj,x,z⟩:=mem_ready.1 u;have B:∀e∈oj.after,Region.binds md e=true->e.on≠i:=fun e T S G=>by
     have D:=z e T S;rw[G,getD_both d]at D;cases D
    have R:=qOp_put x (g j oj x hji q B) (fun cs b=>r i y cs b hi) (fun cs b=>r j oj cs b x) E D;have l:∀k ok,ops[k]? =some ok->k≠i->(c.setIfInBounds j true).getD k true=false->
      (∀e∈ok.after,Region.binds md e=true->e.on≠i)->y.apart ops ok=true:=fun k ok U I d J=>by
     refine g k ok U I ?_ J;by_cases hjk:j=k
     · subst hjk;exact q
     · rw[getD_set_ne true hjk]at d;exact d
    refine qOp_mono (fun Q K=>ih (c.setIfInBounds j true) Q (p.set u m) l (ready_mono hr (Ne.symm hji)) K.1 ?_) R;rw[Array.setIfInBounds_comm _ _ hji];exact K.2
theorem Ua {n g:Nat} {m:Act->Prop} (c:Region.noSelect ops=true) (u:Region.sinkB md ops n=true) (r:Region.chainB md ops n=true) (t:n<ops.size):
   ∀(l:List Oper) (k:Nat) (b:Array Bool) (a:Act),(∀j,j<l.length->l[j]? =ops[k+j]?)->k+l.length=n->HeadInv md ops n b->
   Region.lexHead md ops g l.length k b=true->wpQuiet P ops C m l a->
   Ra P md ops C n (fun listed' a'=>Region.seqB md ops g n listed'=true/\m a') l.length b a
 | [],k,b,a,_,hk,_,hB,h=>by
   have:k=n:=by simpa using hk
   subst this;exact⟨by simpa [Region.lexHead] using hB,h⟩
 | o::l,k,b,a,hl,hk,inv,hB,h=>by
   have i:ops[k]? =some o:=by simpa using (hl 0 (by simp)).symm
   simp only[List.length_cons,Region.lexHead,Bool.and_eq_true]at hB;obtain⟨⟨hr,z⟩,p⟩:=hB;have d:k<n:=by simp only[List.length_cons]at hk;omega
   have e:k∈Region.ready md ops b:=by simpa using hr
   have q:qOp P ops C k (wpQuiet P ops C m l) a:=by unfold qOp;simp only[i];exact h
   obtain⟨v,A,x⟩:=yieldsIn_of_qOp i q;exact Yw i (Region.noSelect_spec c) u r t d (fun listed' a' y=>seqB_ready y.1) l.length b a inv (Region.free_spec i z) e A
    (Ua c u r t l (k+1) _ _ (fun j B=>by have:=hl (j+1) (by simp;omega);simpa [Nat.add_assoc,Nat.add_comm 1 j] using this) (by simp only[List.length_cons]at hk;omega) (inv.set e d) p x)
theorem region_tail {id:Nat} {Q:Exit->Act->World->Prop} {a:Act} {w:World} {l:List Oper} (n:Nat) (E:P.follows .mixedOrders=true) (u:Region.lexTailB .any l.toArray n=true) (B:C {w with drawn:=w.drawn+1})
  (h:wpQuiet P l.toArray C (fun p=>∀o,C o->wpList P l.toArray Q (l.drop n) p o) (l.take n) a):(Code.region id l.toArray true).wp P Q a w:=by
 simp only[Region.lexTailB,Bool.and_eq_true,decide_eq_true_eq]at u;obtain⟨⟨⟨⟨i,A⟩,I⟩,D⟩,e⟩:=u;have G:n<l.length:=by simpa using A
 have b:(l.take n).length=n:=by simp;omega
 have d:(l.drop n).length=l.toArray.size-n:=by simp
 have m:HeadInv .any l.toArray n (Array.replicate l.toArray.size false):=
  ⟨by simp,fun j K _ z=>(by rw[getD_replicate_false]at z;cases z),fun t _ J=>getD_in (by simpa using J) (getD_replicate_false _ _)⟩
 have H:=Ua (md:=.any) (g:=l.toArray.size-n) i I D A (l.take n) 0 _ a (fun j y=>by
  have q:j<n:=by rw[b]at y;exact y
  simp[q]) (by simpa using b) m (by rw[b];exact e) h
 refine wp_region_any E ?_;have:=Ng (Q':=Q) (g:=l.toArray.size-n) (fun c p o r x=>by
  have:=wpAny_of_seq (md:=.any) (Q':=Q) (l.drop n) n c p o (fun j=>by simp[List.getElem?_drop]) (by rw[d];exact x.1) (x.2 o r);rwa [d]at this) _ _ _ _ B H
 rw[b,show n+(l.toArray.size-n)=l.toArray.size by omega]at this;exact this
end
theorem Hz {P:Program} {id:Nat} {Q:Exit->Act->World->Prop} {a:Act} {w:World} {l:List Oper} (n:Nat) (m:P.follows .mixedOrders=true) (i:Region.lexTailB .any l.toArray n=true)
  (h:∀(X:Type) (F:X->World),Nonempty X->(∀x,Below w.heap.size w (F x))->(∀x w',Below (F x).heap.size (F x) w'->∃y,w'=F y)->
    wpQuiet P l.toArray (fun w'=>∃x,w'=F x) (fun a'=>∀z,wpList P l.toArray Q (l.drop n) a' (F z)) (l.take n) a):(Code.region id l.toArray true).wp P Q a w:=by
 obtain⟨X,F,j,b,c,d⟩:=Quietly.worlds w;refine region_tail (C:=fun w'=>∃x,w'=F x) n m i ?_ ?_
 ·obtain⟨x,rfl⟩:=c
  exact d x _ (Below.refl _ _).drew
 ·have g:=h X F j b d
  have e:(fun (a':Act)=>∀z,wpList P l.toArray Q (l.drop n) a' (F z))=(fun a'=>∀w',(∃x,w'=F x)->wpList P l.toArray Q (l.drop n) a' w'):=by
    funext a'
    exact propext ⟨fun h w' ⟨x,e⟩=>e▸h x,fun h z=>h _ ⟨z,rfl⟩⟩
  rw[<- e];exact g
end Quietly
namespace ReMem
open Go Go.RowKit MatchMath
theorem parP2_any (s:ByteArray) (S:Bool) (k n:Nat) (hp:Fm s S k n) (e:Re) (b1:e.op=2) (v sv:Value) (i:Nat) (l:List Span) (mm:Nat) (w:World) (b6:size e<n+1) (a1:size e<=100) (a2:gok k e=true) (Y:Ag e) (hl:Lies w v e.args) (hs:Al w sv l) (a8:l.length=k) (b0:SpOk s.size l) (hi:i<=s.size) (hm:TBox w mm s S) (ht:Tabs w) (a3:s.size<=4096) (hk:k<=4096):
  Calls Tryz.prog 126 #[.pointer (some ⟨mm,0,none⟩),Ac v e,.int .i64 i,sv] w (PRes w ((tx s S).parses e i l)):=by
 obtain⟨o,p,lo,h,g,args⟩:=e;simp only[Re.op]at b1;subst b1;have d9:=qh Y;unfold gok at a2;simp only[Bool.and_eq_true]at a2;obtain⟨⟨b2,f3,f4⟩,a7⟩:=a2;have a0:∀t∈args,size t<n:=fun t ht=>by have:=Bo (e:=.mk 2 p lo h g args) ht;omega
 have f6:args.length<=100:=by have h1:=Ea args;rw[size]at a1;omega
 have f2:args.length<=9223372036854775807:=by omega
 have N:Hid ((tx s S).parses (.mk 2 p lo h g args) i l=(tx s S).node 2 p lo h g (Ap (.mk 2 p lo h g args)) ((tx s S).parsesL args) i l):=by show _=_;rw[Text.parses]
 have b5:(tx s S).s.length=s.size:=Ce s;have u:=qh (fun v L W (hb:qw w W) (h:PLies W v L) (hL:L.length<=1099511627776) (hg:GP s.size k L)=>Fg s.size k v L w.heap.size w W hb rfl ht h hL hg a3 hk);have HS:=qh hs;have HL:=qh hl;have a6:=qh b0;have a5:=qh a8;have e7:=qh a3;have e6:=qh hk;have HM:=qh hm;have f0:=qh ht;have e0:=qh a7;have e8:=qh a0;have b7:=qh hp;have b9:=Dh b2;obtain⟨va,vc,rfl⟩:=hl.shape;obtain⟨sa,sc,rfl⟩:=hs.shape;have c9:=hs.len.2;have f5:(i:Int)<=(s.size:Int):=by omega
 have f7:(s.size:Int)<=4096:=by omega
 unfold Ac;simp only[Re.op,Re.set,Re.lo,Re.hi,Re.group,Re.args]at*;obtain⟨R,hR⟩:∃R,(tx s S).parses (.mk 2 p lo h g args) i l=R:=⟨_,rfl⟩;rw[hR]at N ⊢;clear hR hs hl b0 b2 a3 a8 hk hm ht a7 a0 hp b6 a1 Y;have r:Hid (R=done s.size (if (tx s S).hasAt p i then [(i+1,l)] else [])):=by show _=_;rw[N.o];unfold Text.node;simp[b5]
 have M:=qh (fun (c:Nat) W (hc:c<256)=>CharHas.has_any p c W hc);generalize hx0:Sets.Aa p 0=x0 at*;generalize hx1:Sets.Aa p 1=x1 at*;generalize hx2:Sets.Aa p 2=x2 at*;generalize hx3:Sets.Aa p 3=x3 at*;clear hx0 hx1 hx2 hx3;have b:=qh (PW.new w 2 x0 x1 x2 x3 lo h g (.slice va args.length vc) i (.slice sa l.length sc));go_enter func126,ntmps126
 go_upto_region 4 with fail
 generalize ((w.alloc (.cells #[.int .i64 2,.int .u64 x0,.int .u64 x1,.int .u64 x2,.int .u64 x3,.int .i64 lo,.int .i64 h,.int .i64 g,.slice va args.length vc] 28)).alloc (.cells #[.int .i64 (i:Int),.slice sa l.length sc] 119)).alloc (.cells #[.slice none 0 0] 115)=w3 at*;obtain⟨d0,d1,d2,d3,d4,d5,d6,d7,d8,f8⟩:=b.o.box;have h0:w3.cell? ⟨w.heap.size+1,0,none⟩=some (.int .i64 (i:Int)):=by rw[qc b.o.here];rfl
 have h1:w3.cell? ⟨w.heap.size+1,1,none⟩=some (.slice sa l.length sc):=by rw[qc b.o.here];rfl
 have b3:=qh (HS.o.stays b.o.bel);have m0:=HM.o.t0;have I:=upc b.o.bel m0;have f1:=qh (fun W (hw:qw w3 W)=>And.intro (upc hw d1) (And.intro (upc hw d2) (And.intro (upc hw d3) (And.intro (upc hw d4) (upc hw I)))));have U:=qh (fun W (hw:qw w3 W)=>Fx (w.heap.size+1+1) _ _ [] (i+1,l) W (b.o.out.stays hw) (b3.o.stays hw) (by simp));have J:=qh (fun W=>Ed ⟨w.heap.size+1+1,0,none⟩ ((i:Int)+1) sa l.length sc W);by_cases hlt:i<s.size
 ·have a9:(i:Int)< (s.size:Int):=by omega
  have b8:min (i:Int) ((s.size:Int)-1)=(i:Int):=by omega
  have a4:=qh (Xl s S p hlt);rw[a4.o]at r;have b4:s[i].toNat<256:=UInt8.toNat_lt _;have K:=qh (fun W=>M.o s[i].toNat W b4);clear a4 M m0;cases hbg:p s[i].toNat with
  |true=>
   rw[hbg]at K r;have C:Hid (R=done s.size [(i+1,l)]):=by show _=_;rw[r.o];rfl
   clear hbg r;cases hd:R with
   |none=>
    go_wp2_with fail
    refine Quietly.Hz 30 (by kernel_rfl) (by kernel_rfl) ?_;intro X F hN a T;have e1:∀z,(F z).cell? ⟨w.heap.size,1,none⟩=some (.int .u64 (x0:Nat)):=fun z=>upc (a z) d1;have e2:∀z,(F z).cell? ⟨w.heap.size,2,none⟩=some (.int .u64 (x1:Nat)):=fun z=>upc (a z) d2;have e3:∀z,(F z).cell? ⟨w.heap.size,3,none⟩=some (.int .u64 (x2:Nat)):=fun z=>upc (a z) d3;have e4:∀z,(F z).cell? ⟨w.heap.size,4,none⟩=some (.int .u64 (x3:Nat)):=fun z=>upc (a z) d4;have P:∀z,(F z).cell? ⟨mm,0,none⟩=some (.string s):=fun z=>upc (a z) I;simp only[List.take_succ_cons,List.take_zero];repeat go_big_quiet_step (first
       | (go_at_call 166
          (with_reducible refine (K.o _).mono ?_);rintro e w1 ⟨rfl,G⟩;exact⟨rfl,T _ _ G⟩))
    refine wpQuiet_nil ?_;intro z;simp only[List.drop_succ_cons,List.drop_zero];have q:=qh (a z);go_wp2_with (first
       | (go_at_call 165
          (refine (U.o _ q.o).mono ?_);rintro P w5 ⟨rfl,⟨v5,j⟩,Q⟩;have y:=qh j;have m:=qh ((b.o.bel.trans (q.o.mono b.o.bel.size)).trans (Q.below (Nat.le_trans b.o.bel.size q.o.size) (fun k hk e=>by
           rcases e with e | e
           · omega
           · cases e)))
          have o5:=j.cell;clear j Q))
    go_wp2_with (first
    | ( go_at_call 172
        (refine (u.o _ [(i+1,l)] _ m.o y.o.2.lies (by simp) (GP.one hlt a5.o a6.o)).mono ?_);rintro V w9 ⟨D,B⟩;rw[<- C.o,hd]at D;obtain rfl:V=.panicked [{v:=Value.iface 184 (.agg #[]),recovered:=false}]:=D;have x:=qh (Ab m.o B)))
    refine⟨rfl,?_⟩;try rw[hd]
    exact⟨rfl,x.o⟩
   |some m9=>
    go_wp2_with fail
    refine Quietly.Hz 30 (by kernel_rfl) (by kernel_rfl) ?_;intro X F hN a T;have e1:∀z,(F z).cell? ⟨w.heap.size,1,none⟩=some (.int .u64 (x0:Nat)):=fun z=>upc (a z) d1;have e2:∀z,(F z).cell? ⟨w.heap.size,2,none⟩=some (.int .u64 (x1:Nat)):=fun z=>upc (a z) d2;have e3:∀z,(F z).cell? ⟨w.heap.size,3,none⟩=some (.int .u64 (x2:Nat)):=fun z=>upc (a z) d3;have e4:∀z,(F z).cell? ⟨w.heap.size,4,none⟩=some (.int .u64 (x3:Nat)):=fun z=>upc (a z) d4;have P:∀z,(F z).cell? ⟨mm,0,none⟩=some (.string s):=fun z=>upc (a z) I;simp only[List.take_succ_cons,List.take_zero];repeat go_big_quiet_step (first
       | (go_at_call 166
          (with_reducible refine (K.o _).mono ?_);rintro e w1 ⟨rfl,G⟩;exact⟨rfl,T _ _ G⟩))
    refine wpQuiet_nil ?_;intro z;simp only[List.drop_succ_cons,List.drop_zero];have q:=qh (a z);go_wp2_with (first
       | (go_at_call 165
          (refine (U.o _ q.o).mono ?_);rintro P w5 ⟨rfl,⟨v5,j⟩,Q⟩;have y:=qh j;have m:=qh ((b.o.bel.trans (q.o.mono b.o.bel.size)).trans (Q.below (Nat.le_trans b.o.bel.size q.o.size) (fun k hk e=>by
           rcases e with e | e
           · omega
           · cases e)))
          have o5:=j.cell;clear j Q))
    go_wp2_with (first
    | ( go_at_call 172
        (refine (u.o _ [(i+1,l)] _ m.o y.o.2.lies (by simp) (GP.one hlt a5.o a6.o)).mono ?_);rintro V w9 ⟨D,B⟩;rw[<- C.o,hd]at D;obtain⟨v9,rfl,E⟩:=D;have O:=qh (E.mono (show w.heap.size<=_ from (m.o).size));have x:=qh (Ab m.o B);clear E))
    go_ret;try rw[hd]
    exact⟨⟨_,rfl,O.o⟩,x.o⟩
  |false=>
   rw[hbg]at K r;have C:Hid (R=done s.size []):=by show _=_;rw[r.o];rfl
   clear hbg r;cases hd:R with
   |none=>
    go_wp2_with fail
    refine Quietly.Hz 30 (by kernel_rfl) (by kernel_rfl) ?_;intro X F hN a T;have e1:∀z,(F z).cell? ⟨w.heap.size,1,none⟩=some (.int .u64 (x0:Nat)):=fun z=>upc (a z) d1;have e2:∀z,(F z).cell? ⟨w.heap.size,2,none⟩=some (.int .u64 (x1:Nat)):=fun z=>upc (a z) d2;have e3:∀z,(F z).cell? ⟨w.heap.size,3,none⟩=some (.int .u64 (x2:Nat)):=fun z=>upc (a z) d3;have e4:∀z,(F z).cell? ⟨w.heap.size,4,none⟩=some (.int .u64 (x3:Nat)):=fun z=>upc (a z) d4;have P:∀z,(F z).cell? ⟨mm,0,none⟩=some (.string s):=fun z=>upc (a z) I;simp only[List.take_succ_cons,List.take_zero];repeat go_big_quiet_step (first
       | (go_at_call 166
          (with_reducible refine (K.o _).mono ?_);rintro e w1 ⟨rfl,G⟩;exact⟨rfl,T _ _ G⟩))
    refine wpQuiet_nil ?_;intro z;simp only[List.drop_succ_cons,List.drop_zero];have q:=qh (a z);go_wp2_with (first
       | (go_at_call 165
          (refine (J.o _).mono ?_);rintro P w5 ⟨rfl,A⟩;have d:=Ab q.o A;have j:=b.o.out.stays d;have y:=qh j;have m:=qh (b.o.bel.trans (d.mono b.o.bel.size));have o5:=j.cell;clear j A d))
    go_wp2_with (first
    | ( go_at_call 172
        (refine (u.o _ [] _ m.o y.o.2.lies (by simp) (GP.nil _ _)).mono ?_);rintro V w9 ⟨D,B⟩;rw[<- C.o,hd]at D;obtain rfl:V=.panicked [{v:=Value.iface 184 (.agg #[]),recovered:=false}]:=D;have x:=qh (Ab m.o B)))
    refine⟨rfl,?_⟩;try rw[hd]
    exact⟨rfl,x.o⟩
   |some m9=>
    go_wp2_with fail
    refine Quietly.Hz 30 (by kernel_rfl) (by kernel_rfl) ?_;intro X F hN a T;have e1:∀z,(F z).cell? ⟨w.heap.size,1,none⟩=some (.int .u64 (x0:Nat)):=fun z=>upc (a z) d1;have e2:∀z,(F z).cell? ⟨w.heap.size,2,none⟩=some (.int .u64 (x1:Nat)):=fun z=>upc (a z) d2;have e3:∀z,(F z).cell? ⟨w.heap.size,3,none⟩=some (.int .u64 (x2:Nat)):=fun z=>upc (a z) d3;have e4:∀z,(F z).cell? ⟨w.heap.size,4,none⟩=some (.int .u64 (x3:Nat)):=fun z=>upc (a z) d4;have P:∀z,(F z).cell? ⟨mm,0,none⟩=some (.string s):=fun z=>upc (a z) I;simp only[List.take_succ_cons,List.take_zero];repeat go_big_quiet_step (first
       | (go_at_call 166
          (with_reducible refine (K.o _).mono ?_);rintro e w1 ⟨rfl,G⟩;exact⟨rfl,T _ _ G⟩))
    refine wpQuiet_nil ?_;intro z;simp only[List.drop_succ_cons,List.drop_zero];have q:=qh (a z);go_wp2_with (first
       | (go_at_call 165
          (refine (J.o _).mono ?_);rintro P w5 ⟨rfl,A⟩;have d:=Ab q.o A;have j:=b.o.out.stays d;have y:=qh j;have m:=qh (b.o.bel.trans (d.mono b.o.bel.size));have o5:=j.cell;clear j A d))
    go_wp2_with (first
    | ( go_at_call 172
        (refine (u.o _ [] _ m.o y.o.2.lies (by simp) (GP.nil _ _)).mono ?_);rintro V w9 ⟨D,B⟩;rw[<- C.o,hd]at D;obtain⟨v9,rfl,E⟩:=D;have O:=qh (E.mono (show w.heap.size<=_ from (m.o).size));have x:=qh (Ab m.o B);clear E))
    go_ret;try rw[hd]
    exact⟨⟨_,rfl,O.o⟩,x.o⟩
 ·have a9:decide ((i:Int)< (s.size:Int))=false:=by simp;omega
  have C:Hid (R=done s.size []):=by show _=_;rw[r.o,Tv s S p hlt];rfl
  clear r M m0;cases hd:R with
  |none=>
   go_wp2_with fail
   refine Quietly.Hz 30 (by kernel_rfl) (by kernel_rfl) ?_;intro X F hN a T;have e1:∀z,(F z).cell? ⟨w.heap.size,1,none⟩=some (.int .u64 (x0:Nat)):=fun z=>upc (a z) d1;have e2:∀z,(F z).cell? ⟨w.heap.size,2,none⟩=some (.int .u64 (x1:Nat)):=fun z=>upc (a z) d2;have e3:∀z,(F z).cell? ⟨w.heap.size,3,none⟩=some (.int .u64 (x2:Nat)):=fun z=>upc (a z) d3;have e4:∀z,(F z).cell? ⟨w.heap.size,4,none⟩=some (.int .u64 (x3:Nat)):=fun z=>upc (a z) d4;have P:∀z,(F z).cell? ⟨mm,0,none⟩=some (.string s):=fun z=>upc (a z) I;simp only[List.take_succ_cons,List.take_zero];repeat go_big_quiet_step (fail)
   refine wpQuiet_nil ?_;intro z;simp only[List.drop_succ_cons,List.drop_zero];have q:=qh (a z);go_wp2_with (first
    | ( go_at_call 165
        (refine (J.o _).mono ?_);rintro P w5 ⟨rfl,A⟩;have d:=Ab q.o A;have j:=b.o.out.stays d;have y:=qh j;have m:=qh (b.o.bel.trans (d.mono b.o.bel.size));have o5:=j.cell;clear j A d))
   go_wp2_with (first
   | (go_at_call 172
      (refine (u.o _ [] _ m.o y.o.2.lies (by simp) (GP.nil _ _)).mono ?_);rintro V w9 ⟨D,B⟩;rw[<- C.o,hd]at D;obtain rfl:V=.panicked [{v:=Value.iface 184 (.agg #[]),recovered:=false}]:=D;have x:=qh (Ab m.o B)))
   refine⟨rfl,?_⟩;try rw[hd]
   exact⟨rfl,x.o⟩
  |some m9=>
   go_wp2_with fail
   refine Quietly.Hz 30 (by kernel_rfl) (by kernel_rfl) ?_;intro X F hN a T;have e1:∀z,(F z).cell? ⟨w.heap.size,1,none⟩=some (.int .u64 (x0:Nat)):=fun z=>upc (a z) d1;have e2:∀z,(F z).cell? ⟨w.heap.size,2,none⟩=some (.int .u64 (x1:Nat)):=fun z=>upc (a z) d2;have e3:∀z,(F z).cell? ⟨w.heap.size,3,none⟩=some (.int .u64 (x2:Nat)):=fun z=>upc (a z) d3;have e4:∀z,(F z).cell? ⟨w.heap.size,4,none⟩=some (.int .u64 (x3:Nat)):=fun z=>upc (a z) d4;have P:∀z,(F z).cell? ⟨mm,0,none⟩=some (.string s):=fun z=>upc (a z) I;simp only[List.take_succ_cons,List.take_zero];repeat go_big_quiet_step (fail)
   refine wpQuiet_nil ?_;intro z;simp only[List.drop_succ_cons,List.drop_zero];have q:=qh (a z);go_wp2_with (first
    | ( go_at_call 165
        (refine (J.o _).mono ?_);rintro P w5 ⟨rfl,A⟩;have d:=Ab q.o A;have j:=b.o.out.stays d;have y:=qh j;have m:=qh (b.o.bel.trans (d.mono b.o.bel.size));have o5:=j.cell;clear j A d))
   go_wp2_with (first
   | (go_at_call 172
      (refine (u.o _ [] _ m.o y.o.2.lies (by simp) (GP.nil _ _)).mono ?_);rintro V w9 ⟨D,B⟩;rw[<- C.o,hd]at D;obtain⟨v9,rfl,E⟩:=D;have O:=qh (E.mono (show w.heap.size<=_ from (m.o).size));have x:=qh (Ab m.o B);clear E))
   go_ret;try rw[hd]
   exact⟨⟨_,rfl,O.o⟩,x.o⟩
end ReMem
namespace ReMem
open Go Go.RowKit MatchMath
theorem Yi {l m:List Parse} {a b:List Value} (h:a.length=l.length):Dq (l++m) (a++b)=Dq l a++Dq m b:=by
 unfold Dq;rw[List.zip_append h.symm,List.flatMap_append]
theorem Vv {w:World}:∀(zs:List (Z w)),Gr (zs.map Z.el)=Dq (zs.map Z.pa) (zs.map fun z=>elV z.el)
 | []=>rfl
 |z::r=>by
  have h:=Vv r;have e:z.el.1=(z.pa.1:Int):=z.2.1;simp only[Gr,Dq,List.map_cons,List.flatMap_cons,List.zip_cons_cons]at*;rw[e,h]
theorem collect_cons (f:F) (q:Parse) (r p:List Parse):(collect f (q::r)).map (fun b=>p++b)=(f q.1 q.2).bind fun a=>(collect f r).map fun b=>(p++a)++b:=by
 simp only[collect];cases f q.1 q.2 with
 | none=>rfl
 |some a=>
  cases collect f r with
  | none=>rfl
  | some b=>simp
theorem wp_spread {o:Oper} {a:Act} {K:Act->World->Prop} {Q:Exit->Act->World->Prop} (w:World) (s x:Operand)
  (R:o.op=.call {callee:=.builtin .append,args:=#[s,x],argTypes:=#[115,115]}) (base:Nat) (v:Value) (l:List Parse) (S:a.eval s=v) (D:PRow w base v l)
  (mv:Value) (m:List Parse) (hx:a.eval x=mv) (hm:PLies w mv m) (hsz:l.length+m.length<=1099511627776) (hb:base<=w.heap.size)
  (h:∀B C,PRow C base B (l++m)->Chg (fun k=>some k=v.ownBlock) w C->Near w.heap.size v B->K (a.put o.dst B) C):Oper.wp Tryz.prog o a w K Q:=by
 obtain⟨T,hi,J,L,M⟩:=info_parts No;by_cases hm0:m= []
 ·subst hm0
  obtain⟨X,Y,rfl⟩:=hm.shape;obtain⟨va,vc,rfl⟩:=D.form;have n:=D.lies.len.2.1;exact Fc w s x 115 R 119 T underlying115 hi va l.length vc n S X Y hx (h _ w (by simpa using D) (Chg.refl _ w) (Near.refl _ _))
 ·obtain⟨zs,i,W⟩:=hm.zs
  obtain⟨b,off,E,rfl,g⟩:=W hm0;obtain⟨N,c,t,y⟩:=D;have p:zs.length=m.length:=by rw[<- i,List.length_map]
  obtain⟨B,C,hr,O,U,V⟩:=Own.Gg (P:=Tryz.prog) w base 115 o.type 119 T (.agg #[.int .i64 0,.slice none 0 0]) 2 32 underlying115 hi J L M rfl (by decide) v l.length (Dq l N) t ⟨b,off,none⟩ m.length E (Gr (zs.map Z.el)) (by rw[Mk,List.length_map,p]) g (Sr _) (by unfold maxLen;omega) (by omega) hb;have G:=Chg.grown U;have r:NoSp (fun k=>some k=v.ownBlock) w:=PRow.noSp ⟨N,c,t,y⟩;unfold Oper.wp execOp;simp only[R,resolve,invoke,builtin,Sem.run_bind,Sem.run_pure,Result.andThen_ok,List.map_toArray,List.map_cons,List.map_nil,S,hx,hr];refine h B C ⟨N++zs.map (fun z=>elV z.el),by simp[c,p],?_,fun j q u d A=>?_⟩ G (V.imp id fun e k I=>by rw[e]at I;injection I with I;omega)
  ·rw[Yi c,List.length_append]
   rw[Vv,i]at O;exact O
  ·by_cases hjl:j<l.length
   ·rw[List.getElem?_append_left hjl]at d
    rw[List.getElem?_append_left (by omega)]at A;exact (y j q u d A).chg G r
   ·rw[List.getElem?_append_right (by omega)]at d
    rw[List.getElem?_append_right (by omega),c,List.getElem?_map]at A;rw[<- i,List.getElem?_map]at d;cases hzj:zs[j-l.length]? with
    | none=>rw[hzj]at d;cases d
    |some z=>
     rw[hzj]at d A;obtain rfl:=Option.some.inj d;obtain rfl:=Option.some.inj A;exact (z.2.2).chg G r
theorem Yx {ops:Array Oper} {b:List Oper} {o:Oper} {a:Act} {Q:Exit->Act->World->Prop} (w:World) (e:o.guard=none) (s x:Operand)
  (p:o.op=.call {callee:=.builtin .append,args:=#[s,x],argTypes:=#[115,115]}) (base:Nat) (v:Value) (l:List Parse) (r:a.eval s=v) (q:PRow w base v l)
  (mv:Value) (m:List Parse) (hx:a.eval x=mv) (hm:PLies w mv m) (hsz:l.length+m.length<=1099511627776) (hb:base<=w.heap.size)
  (h:∀c d,PRow d base c (l++m)->Chg (fun k=>some k=v.ownBlock) w d->Near w.heap.size v c->wpList Tryz.prog ops Q b (a.put o.dst c) d):wpList Tryz.prog ops Q (o::b) a w:=
 wpList_plain e fun _ n=>wp_spread w s x p base v l r q mv m hx hm hsz hb (fun c d g i j=>n _ _ (h c d g i j))
theorem Nc {ops:Array Oper} {o:Oper} {a:Act} {K:Act->World->Prop} {Q:Exit->Act->World->Prop} {E:Prop} (w:World) (b:o.guard=none) (s x:Operand)
  (c:o.op=.call {callee:=.builtin .append,args:=#[s,x],argTypes:=#[115,115]}) (base:Nat) (v:Value) (l:List Parse) (e:a.eval s=v) (d:PRow w base v l)
  (mv:Value) (m:List Parse) (hx:a.eval x=mv) (hm:PLies w mv m) (hsz:l.length+m.length<=1099511627776) (hb:base<=w.heap.size)
  (h:∀v' w',PRow w' base v' (l++m)->Chg (fun k=>some k=v.ownBlock) w w'->Near w.heap.size v v'->K (a.put o.dst v') w'):if Region.wanted o (yielded ops a.tmps)=true then Oper.wp Tryz.prog o a w K Q else E:=by
 have g:Region.wanted o (yielded ops a.tmps)=true:=by simp[Region.wanted,b]
 rw[if_pos g];exact wp_spread w s x c base v l e d mv m hx hm hsz hb h
end ReMem
namespace ReMem
open Go Go.RowKit MatchMath
theorem parP3_any (s:ByteArray) (E:Bool) (k n:Nat) (hp:Fm s E k n) (e:Re) (i5:e.op=3) (v sv:Value) (i:Nat) (l:List Span) (mm:Nat) (w:World) (n8:size e<n+1) (d9:size e<=100) (f5:gok k e=true) (b8:Ag e) (hl:Lies w v e.args) (hs:Al w sv l) (i3:l.length=k) (i4:SpOk s.size l) (hi:i<=s.size) (hm:TBox w mm s E) (ht:Tabs w) (g2:s.size<=4096) (hk:k<=4096):
  Calls Tryz.prog 126 #[.pointer (some ⟨mm,0,none⟩),Ac v e,.int .i64 i,sv] w (PRes w ((tx s E).parses e i l)):=by
 obtain⟨o,p,lo,h,g,args⟩:=e;simp only[Re.op]at i5;subst i5;have o7:=qh b8;unfold gok at f5;simp only[Bool.and_eq_true]at f5;obtain⟨⟨i7,p2,n5⟩,i1⟩:=f5;have c9:∀t∈args,size t<n:=fun t ht=>by have:=Bo (e:=.mk 3 p lo h g args) ht;omega
 have p5:args.length<=100:=by have G:=Ea args;rw[size]at d9;omega
 have p0:args.length<=9223372036854775807:=by omega
 have Y:Hid ((tx s E).parses (.mk 3 p lo h g args) i l=(tx s E).node 3 p lo h g (Ap (.mk 3 p lo h g args)) ((tx s E).parsesL args) i l):=by show _=_;rw[Text.parses]
 have a8:(tx s E).s.length=s.size:=Ce s;have a3:=qh (fun v L W (hb:qw w W) (h:PLies W v L) (hL:L.length<=1099511627776) (hg:GP s.size k L)=>Fg s.size k v L w.heap.size w W hb rfl ht h hL hg g2 hk);have HS:=qh hs;have HL:=qh hl;have m3:=qh i4;have j9:=qh i3;have n2:=qh g2;have j8:=qh hk;have HM:=qh hm;have h6:=qh ht;have j6:=qh i1;have n3:=qh c9;have h2:=qh hp;have o2:=Dh i7;obtain⟨va,vc,rfl⟩:=hl.shape;obtain⟨sa,sc,rfl⟩:=hs.shape;have o3:=hs.len.2;have p3:(i:Int)<=(s.size:Int):=by omega
 have p6:(s.size:Int)<=4096:=by omega
 unfold Ac;simp only[Re.op,Re.set,Re.lo,Re.hi,Re.group,Re.args]at*;obtain⟨R,hR⟩:∃R,(tx s E).parses (.mk 3 p lo h g args) i l=R:=⟨_,rfl⟩;rw[hR]at Y ⊢;clear hR hs hl i4 i7 g2 i3 hk hm ht i1 c9 hp n8 d9 b8;obtain⟨CR,f2⟩:∃x,Cs ((tx s E).parsesL args) [(i,l)]=x:=⟨_,rfl⟩;have Q:Hid (R=CR.bind (done s.size)):=by show _=_;rw[Y.o,<-f2];unfold Text.node;simp[a8]
 have j4:=qh f2;have b7:=qh (fun t (q:Parse) m (hq:q.1<=s.size/\q.2.length=k/\SpOk s.size q.2) (hm:(tx s E).parses t q.1 q.2=some m)=>POk.gp (Dd (tx s E) t q.1 q.2 m (by rw[a8];exact hq.1) (by rw[a8];exact hq.2.2) hm));rw[a8]at b7;obtain⟨ta,tc,r2,e0,⟨o4,o5⟩,b9⟩:=HL.o.opened;cases e0
 have HO:=qh b9;have g5:=qh (GP.one hi j9.o m3.o);clear b9 n5 f2;generalize hx0:Sets.Aa p 0=x0 at*;generalize hx1:Sets.Aa p 1=x1 at*;generalize hx2:Sets.Aa p 2=x2 at*;generalize hx3:Sets.Aa p 3=x3 at*;clear hx0 hx1 hx2 hx3;have C:=qh (PW.new w 3 x0 x1 x2 x3 lo h g (.slice va args.length vc) i (.slice sa l.length sc));go_enter func126,ntmps126
 go_upto_region 4 with fail
 generalize ((w.alloc (.cells #[.int .i64 3,.int .u64 x0,.int .u64 x1,.int .u64 x2,.int .u64 x3,.int .i64 lo,.int .i64 h,.int .i64 g,.slice va args.length vc] 28)).alloc (.cells #[.int .i64 (i:Int),.slice sa l.length sc] 119)).alloc (.cells #[.slice none 0 0] 115)=w3 at*;obtain⟨d0,d1,d2,d3,d4,d5,d6,d7,d8,n9⟩:=C.o.box;have h0:w3.cell? ⟨w.heap.size+1,0,none⟩=some (.int .i64 (i:Int)):=by rw[qc C.o.here];rfl
 have G:w3.cell? ⟨w.heap.size+1,1,none⟩=some (.slice sa l.length sc):=by rw[qc C.o.here];rfl
 have m8:=qh (HS.o.stays C.o.bel);have T:=qh (qb w3 (.cells #[.int .i64 (i:Int),.slice sa l.length sc] 119));have a0:=qh (C.o.out.stays T.o);have o0:=a0.o.cell;have o1:=a0.o.free;have m2:Hid (OBx ((w3.alloc (.cells #[.int .i64 (i:Int),.slice sa l.length sc] 119)).setCell ⟨w.heap.size+1+1,0,none⟩ (.slice (some ⟨w3.heap.size,0,none⟩) 1 1)) (w.heap.size+1+1) (.slice (some ⟨w3.heap.size,0,none⟩) 1 1) [(i,l)]):=OBx.put a0.o.1 ((PRow.one w3 (i,l) _ m8.o).mono (by have:=C.o.sz;omega));have j0:=qh ((C.o.bel.trans (T.o.mono C.o.bel.size)).trans ((Chg.setCell (w3.alloc (.cells #[.int .i64 (i:Int),.slice sa l.length sc] 119)) (w.heap.size+1+1) 0 (.slice (some ⟨w3.heap.size,0,none⟩) 1 1)).below (Nat.le_trans C.o.bel.size T.o.size) (fun k hk e=>by omega)));go_wp2_with fail
 clear d0 d1 d2 d3 d4 d5 d6 d7 d8 h0 G n9 o0 o1
 go_loopw [196] (fun ix wr=>∃(j:Nat) (ov:Value) (d:List Parse),j<=args.length/\ix=.int .i64 j/\OBx wr (w.heap.size+1+1) ov d/\d.length<=4096/\Hid (GP s.size k d)/\Hid (Cs ((tx s E).parsesL (args.drop j)) d=CR)/\qw w wr) (fun ix _=>args.length-(intOf ix).toNat)
 case atStart=>exact⟨0,_,[(i,l)],Nat.zero_le _,rfl,m2.o,by simp,g5,by rw[List.drop_zero];exact j4,j0.o⟩
 case round=>
  obtain⟨j,ov,d,hj,rfl,b1,a4,U,g4,b2⟩:=hrel;have a1:=qh b1;have A:=qh b2;have K:=qh a4;by_cases hjt:j<args.length
  ·have n6:(j:Int)< (args.length:Int):=by omega
   have g6:=qh hjt;obtain⟨t,tv,b,off,ht,hv,e1,⟨k0,k1,k2,k3,k4,k5,k6,k7,k8⟩,f6,i0,f8⟩:=(HO.o.stays b2).at hjt;cases e1
   obtain⟨CO,f1⟩:∃x,collect ((tx s E).parses t) d=x:=⟨_,rfl⟩;have b6:Hid ((CO.bind fun next=>(lim (dd next)).bind (Cs ((tx s E).parsesL (args.drop (j+1)))))=CR):=by
    show _=_;have G:=g4.out;rw[Ga ht,Text.parsesL,Cs,f1]at G;exact G
   have j3:=qh f1;have a2:=qh (fun (q:Parse) (qv:Value) W (hw:qw wr W) (hq:Al W qv q.2) (hg:q.1<=s.size/\q.2.length=k/\SpOk s.size q.2)=>h2.o t tv qv q.1 q.2 mm W (n3.o t f8) (Bk j6.o f8) i0 (f6.stays hw) hq hg.2.1 hg.2.2 hg.1 (HM.o.stays (A.o.trans (hw.mono A.o.size))) (h6.o.stays (A.o.trans (hw.mono A.o.size))));unfold Ac at a2;obtain⟨b4,b5,rfl⟩:=f6.shape;obtain⟨oa,oc,rfl⟩:=b1.2.form;have e3:=qh (qb wr (.cells #[.int .i64 t.op,.int .u64 (Sets.Aa t.set 0:Nat),.int .u64 (Sets.Aa t.set 1:Nat),.int .u64 (Sets.Aa t.set 2:Nat),.int .u64 (Sets.Aa t.set 3:Nat),.int .i64 t.lo,.int .i64 t.hi,.int .i64 t.group,.slice b4 t.args.length b5] 28));have D:=qh (heap_alloc_new wr (.cells #[.int .i64 t.op,.int .u64 (Sets.Aa t.set 0:Nat),.int .u64 (Sets.Aa t.set 1:Nat),.int .u64 (Sets.Aa t.set 2:Nat),.int .u64 (Sets.Aa t.set 3:Nat),.int .i64 t.lo,.int .i64 t.hi,.int .i64 t.group,.slice b4 t.args.length b5] 28));clear ht hv f6 i0 f8 b1 b2 a4 hjt f1
   go_upto_region 35 with fail
   generalize wr.alloc (.cells #[.int .i64 t.op,.int .u64 (Sets.Aa t.set 0:Nat),.int .u64 (Sets.Aa t.set 1:Nat),.int .u64 (Sets.Aa t.set 2:Nat),.int .u64 (Sets.Aa t.set 3:Nat),.int .i64 t.lo,.int .i64 t.hi,.int .i64 t.group,.slice b4 t.args.length b5] 28)=wq at*;have k0:wq.cell? ⟨wr.heap.size,0,none⟩=some (.int .i64 t.op):=by rw[qc D.o];rfl
   have k1:wq.cell? ⟨wr.heap.size,1,none⟩=some (.int .u64 (Sets.Aa t.set 0:Nat)):=by rw[qc D.o];rfl
   have k2:wq.cell? ⟨wr.heap.size,2,none⟩=some (.int .u64 (Sets.Aa t.set 1:Nat)):=by rw[qc D.o];rfl
   have k3:wq.cell? ⟨wr.heap.size,3,none⟩=some (.int .u64 (Sets.Aa t.set 2:Nat)):=by rw[qc D.o];rfl
   have k4:wq.cell? ⟨wr.heap.size,4,none⟩=some (.int .u64 (Sets.Aa t.set 3:Nat)):=by rw[qc D.o];rfl
   have k5:wq.cell? ⟨wr.heap.size,5,none⟩=some (.int .i64 t.lo):=by rw[qc D.o];rfl
   have k6:wq.cell? ⟨wr.heap.size,6,none⟩=some (.int .i64 t.hi):=by rw[qc D.o];rfl
   have k7:wq.cell? ⟨wr.heap.size,7,none⟩=some (.int .i64 t.group):=by rw[qc D.o];rfl
   have k8:wq.cell? ⟨wr.heap.size,8,none⟩=some (.slice b4 t.args.length b5):=by rw[qc D.o];rfl
   have a6:=qh (a1.o.stays e3.o);have o8:=a6.o.cell;have S:=qh (A.o.trans (e3.o.mono A.o.size));have m6:=qh (fun (q:Parse) (qv:Value) W (hw:qw wq W) (hq:Al W qv q.2) (hg:q.1<=s.size/\q.2.length=k/\SpOk s.size q.2)=>a2.o q qv W (Ab e3.o hw) hq hg);have p1:(d.length:Int)<=4096:=by have:=K.o;omega
   have g9:Hid (w.heap.size+1+1<wq.heap.size):=(qd a6.o.1);clear a2;go_wp2_with fail
   go_loopw [20,202] (fun nx ix wz=>∃(B:Nat) (nv:Value) (r:List Parse),B<=d.length/\ix=.int .i64 B/\nv=nx/\PRow wz wq.heap.size nv r/\r.length<=B*4096/\Hid (GP s.size k r)/\Hid ((collect ((tx s E).parses t) (d.drop B)).map (fun m=>r++m)=CO)/\qw wq wz) (fun _ ix _=>d.length-(intOf ix).toNat)
   case atStart=>exact⟨0,_,[],Nat.zero_le _,rfl,rfl,PRow.nil _ _,Nat.zero_le _,GP.nil _ _,by rw[List.drop_zero];show _=_;rw[j3.o];simp,Below.refl _ _⟩
   case round=>
    obtain⟨B,nv,r,p4,rfl,rfl,a9,g0,V,g3,f4⟩:=hrel;have e6:=qh a9;have e7:=qh g0;have O:=qh f4;obtain⟨na,nc,rfl⟩:=a9.form;by_cases hjt2:B<d.length
    ·have i2:(B:Int)< (d.length:Int):=by omega
     have hz:d[B]? =some d[B]:=List.getElem?_eq_getElem hjt2;obtain⟨mb,o6,yv,em,y1,y2,b3⟩:=(a6.o.2.lies.stays O.o).at hz;obtain⟨ya,yc,rfl⟩:=b3.shape;have p8:=b3.len.2;have a7:=qh (U.out _ (List.getElem_mem hjt2));have I:Hid ((((tx s E).parses t d[B].1 d[B].2).bind fun a=>(collect ((tx s E).parses t) (d.drop (B+1))).map fun m=>(r++a)++m)=CO):=by
        show _=_;rw[<- collect_cons];have G:=g3.out;rw[Ga hz]at G;exact G
     have e4:=qh (qb wr (.cells #[.int .i64 (d[B].1:Int),.slice ya d[B].2.length yc] 119));have h7:=qh (heap_alloc_new wr (.cells #[.int .i64 (d[B].1:Int),.slice ya d[B].2.length yc] 119));have n4:=qh (b3.stays e4.o);have p7:(d[B].1:Int)<=(s.size:Int):=by have:=a7.o.1;omega
     have X:=qh hjt2;cases em
     clear hz b3 a9 g0 f4;generalize d[B]=y at*;obtain⟨ye,P⟩:=y;simp only at*
     go_upto_region 39 with fail
     generalize wr.alloc (.cells #[.int .i64 (ye:Int),.slice ya P.length yc] 119)=wb at*;have q0:wb.cell? ⟨wr.heap.size,0,none⟩=some (.int .i64 (ye:Int)):=by rw[qc h7.o];rfl
     have q1:wb.cell? ⟨wr.heap.size,1,none⟩=some (.slice ya P.length yc):=by rw[qc h7.o];rfl
     have u:=qh (O.o.trans (e4.o.mono O.o.size));have p9:=upc u.o k0;have q2:=upc u.o k1;have q3:=upc u.o k2;have q4:=upc u.o k3;have q5:=upc u.o k4;have q6:=upc u.o k5;have q7:=upc u.o k6;have q8:=upc u.o k7;have q9:=upc u.o k8;have M:=qh (m6.o (ye,P) (.slice ya P.length yc) wb u.o n4.o a7.o);simp only at M;cases hf:(tx s E).parses t ye P with
     |  none=>
        rw[hf]at M I;have e8:Hid (R=none):=by show _=_;rw[Q.o,<-b6.o,<-I.o];rfl
        clear hf;go_wp2_with (first
         | (go_at_call 126
            (refine M.o.mono ?_);rintro e5 w5 ⟨h5,z⟩;obtain rfl:e5=.panicked [{v:=Value.iface 184 (.agg #[]),recovered:=false}]:=h5;have N:=qh (Ab u.o z)))
        go_wp2_with fail
        refine⟨rfl,?_⟩;rw[e8.o];exact⟨rfl,S.o.trans (N.o.mono S.o.size)⟩
     |  some m=>
        have g7:=qh (Ej _ _ _ _ _ hf);have j7:Hid (GP s.size k m):=by
         have G:=b7.o t (ye,P) m a7.o hf;simp only at G;rw[show P.length=k from a7.o.2.1]at G;exact G
        rw[hf]at M I;rw[Option.bind_some]at I;clear hf;go_wp2_with (first
         | (go_at_call 126
            (refine M.o.mono ?_);rintro e5 w5 ⟨h5,z⟩;obtain⟨mv,rfl,f7⟩:=h5;have N:=qh (Ab u.o z);have m0:=qh f7.lies;have g8:=qh (e6.o.stays (Ab e4.o z));obtain⟨ma,mc,rfl⟩:=f7.form;clear f7 z)
         | (at_builtin
            refine Yx _ rfl _ _ rfl wq.heap.size (.slice na r.length nc) r rfl g8.o (.slice ma m.length mc) m rfl m0.o (by have:=e7.o;have:=g7.o;have:=K.o;have:=X.o;omega) N.o.size ?_;intro v7 w7 f9 h8 n7;obtain⟨r4,r6,rfl⟩:∃a c,v7=.slice a (r.length+m.length) c:=by have:=f9.form;simpa using this
            have m5:=qh f9;have i9:=qh (N.o.trans (h8.below N.o.size (fun k hk e=>by have:=(e6.o.lt k e.symm).1;omega)));clear f9 h8 n7))
        go_roundw
        case rel=>
         exact⟨B+1,_,r++m,by have:=X.o;omega,by go_num,rfl,m5.o,by rw[List.length_append];have:=e7.o;have:=g7.o;omega,V.append j7.o,I,i9.o⟩
        case measure=>have:=X.o;simp[intOf];omega
    ·have i2:¬(B:Int)< (d.length:Int):=by omega
     have J:Hid ((lim (dd r)).bind (Cs ((tx s E).parsesL (args.drop (j+1))))=CR):=by
        show _=_;have G:=g3.out;rw[show B=d.length by omega,List.drop_length,collect]at G;rw[<- b6.o,<-G];simp
     have h3:Hid (r.length<=16777216):=by show _<=_;have:=K.o;have:=e7.o;omega
     have a5:=qh (Wr (.slice na r.length nc) r wr e6.o.lies (by have:=h3.o;omega) (V.out.fit n2.o j8.o) (h6.o.stays (S.o.trans (O.o.mono S.o.size))));have m4:=qh (a6.o.stays O.o);have f0:=qh (S.o.trans (O.o.mono S.o.size));clear a9 g0 f4;cases hl:lim (dd r) with
     |  none=>
        rw[hl]at a5 J;have e8:Hid (R=none):=by show _=_;rw[Q.o,<-J.o];rfl
        clear hl;go_wp2_with (first
         | (go_at_call 170
            (refine a5.o.mono ?_);rintro e5 w5 ⟨h5,z⟩;obtain rfl:e5=.panicked [{v:=Value.iface 184 (.agg #[]),recovered:=false}]:=h5;have N:=qh (Ab f0.o z)))
        go_wp2_with fail
        refine⟨rfl,?_⟩;rw[e8.o];exact⟨rfl,N.o⟩
     |  some c2=>
        have j1:=qh (lim_len hl);have j5:Hid (GP s.size k c2):=by
         obtain rfl:=Wm hl;exact fun q hq=>V.out q (Pc.1 hq)
        rw[hl]at a5 J;rw[Option.bind_some]at J;clear hl;go_wp2_with (first
         | (go_at_call 170
            (refine a5.o.mono ?_);rintro e5 w5 ⟨h5,z⟩;obtain⟨v5,rfl,g1⟩:=h5;have b0:=m4.o.stays z;have z5:=b0.free;have c5:=b0.cell;have m1:=qh (OBx.put b0.1 (g1.mono (by have:=g9.o;have:=O.o.size;omega)));have i8:=qh ((Ab f0.o z).trans ((Chg.setCell w5 (w.heap.size+1+1) 0 v5).below (Nat.le_trans f0.o.size z.size) (fun k hk e=>by omega)));obtain⟨r3,r5,rfl⟩:=g1.form;clear g1 z b0))
        go_roundw
        case rel=>
         exact⟨j+1,_,c2,by have:=g6.o;omega,by go_num,m1.o,j1.o,j5.o,J,i8.o⟩
        case measure=>have:=g6.o;simp[intOf];omega
  ·have n6:¬(j:Int)< (args.length:Int):=by omega
   have h4:Hid (R=done s.size d):=by
    show _=_;have G:=g4.out;rw[show j=args.length by omega,List.drop_length,Text.parsesL,Cs]at G;rw[Q.o,<-G];rfl
   obtain⟨r0,r1,rfl⟩:=a1.o.2.form;have o9:=a1.o.cell;clear b1 b2 a4 Q;cases hd:R with
   |none=>
    skip
    go_wp2_with (first
    | (go_at_call 172
       (refine (a3.o _ d _ A.o a1.o.2.lies (by have:=K.o;omega) U.out).mono ?_);rintro e9 w9 ⟨h9,f3⟩;rw[<- h4.o,hd]at h9;obtain rfl:e9=.panicked [{v:=Value.iface 184 (.agg #[]),recovered:=false}]:=h9;have e2:=qh (Ab A.o f3)))
    refine⟨rfl,?_⟩;try rw[hd]
    exact⟨rfl,e2.o⟩
   |some m9=>
    skip
    go_wp2_with (first
    | (go_at_call 172
       (refine (a3.o _ d _ A.o a1.o.2.lies (by have:=K.o;omega) U.out).mono ?_);rintro e9 w9 ⟨h9,f3⟩;rw[<- h4.o,hd]at h9;obtain⟨v9,rfl,i6⟩:=h9;have m7:=qh (i6.mono (show w.heap.size<=_ from (A.o).size));have e2:=qh (Ab A.o f3);clear i6))
    go_ret;try rw[hd]
    exact⟨⟨_,rfl,m7.o⟩,e2.o⟩
end ReMem
end Go.Proofs.YtjefcpjciogcjaaGreatDoor
